/- Checksums of texts; AppendChecksum by the program and by the reference. Conditions: lengths within bounds. -/
import Derived.Test.YtnioipbofopocaaDoorTn
namespace Go.Proofs.YtnioipbofopocaaDoor
open Go.RowKit SL
attribute [local go_sem] cell_blk frozen_blk lt_blk cell_at frozen_row lt_row
set_option linter.unusedVariables false
set_option linter.unusedSimpArgs false

def sumS (n : Nat) (c : UInt8) : Nat := (41 * n + c.toNat + 1) % 999979
def sumN (l : List UInt8) : Nat := l.foldl sumS 7
theorem sumN_snoc (l : List UInt8) (c : UInt8) : sumN (l ++ [c]) = sumS (sumN l) c := by unfold sumN; rw [List.foldl_append]; rfl
theorem sumS_lt (n : Nat) (c : UInt8) : sumS n c < 999979 := Nat.mod_lt _ (by omega)
theorem sumN_lt : ∀ (l : List UInt8), sumN l < 999979 := by
  have key : ∀ (l : List UInt8) (n : Nat), n < 999979 → l.foldl sumS n < 999979 := by
    intro l
    induction l with
    | nil => intro n h; exact h
    | cons c l ih => intro n _; exact ih _ (sumS_lt n c)
  exact fun l => key l 7 (by omega)
theorem sumN_next {l : List UInt8} {i : Nat} {c : UInt8} (h : l[i]? = some c) : sumN (l.take (i + 1)) = sumS (sumN (l.take i)) c := by rw [take_succ_eq h, sumN_snoc]
theorem sum_step (x : Nat) (hx : x < 999979) (c : UInt8) : IntKind.i64.wrap (41 * (x : Int)) = 41 * (x : Int) ∧ IntKind.i64.wrap (41 * (x : Int) + (c.toNat : Int)) = 41 * (x : Int) + (c.toNat : Int) ∧ IntKind.i64.wrap (41 * (x : Int) + (c.toNat : Int) + 1) = 41 * (x : Int) + (c.toNat : Int) + 1 ∧ (41 * (x : Int) + (c.toNat : Int) + 1).tmod 999979 = (sumS x c : Nat) := by
  have hc : c.toNat < 256 := c.toNat_lt
  refine ⟨IntWalk.i64_in _ (by omega), IntWalk.i64_in _ (by omega), IntWalk.i64_in _ (by omega), ?_⟩
  rw [Int.tmod_eq_emod_of_nonneg (by omega)]
  unfold sumS
  omega
/-- A text with its checksum behind it. -/
def sealB (s : ByteArray) : ByteArray := s ++ mkT [35] ++ numB (sumN s.data.toList : Nat)
theorem num_size (n : Int) (h0 : -9223372036854775808 ≤ n) (h1 : n ≤ 9223372036854775807) : (numB n).size ≤ 21 := by unfold numB; rw [mkT_size]; exact Lib.itoa_length_le n h0 h1
theorem sealB_size (s : ByteArray) : s.size + 1 ≤ (sealB s).size ∧ (sealB s).size ≤ s.size + 22 := by
  have h1 := sumN_lt s.data.toList
  have h2 := num_size (sumN s.data.toList : Nat) (by omega) (by omega)
  unfold sealB
  rw [ByteArray.size_append, ByteArray.size_append, mkT_size]
  simp
  omega
set_option maxRecDepth 100000 in
set_option maxHeartbeats 4000000 in
theorem spec_l1Sum (s : ByteArray) (w : World) (hs : s.size ≤ 1048576) :
    Calls Tryd.prog 73 #[.string s] w fun e w' => e = .returned (.int .i64 (sumN s.data.toList : Nat)) ∧ w' = w := by
  obtain ⟨m, hm⟩ : ∃ m, s.size = m := ⟨_, rfl⟩
  have HM := Hd.mk hm
  obtain ⟨X, hX⟩ : ∃ X : Nat → Nat, X = fun i => sumN (s.data.toList.take i) := ⟨_, rfl⟩
  have HX0 : Hd (X 0 = 7) := ⟨by rw [hX]; rfl⟩
  have HXM : Hd (X m = sumN s.data.toList) := ⟨by rw [hX]; simp only; rw [← hm, ← data_len, List.take_length]⟩
  have HXY : Hd (∀ (i : Nat) (c : UInt8), s.data.toList[i]? = some c → X (i + 1) = sumS (X i) c) := ⟨fun i c h => by rw [hX]; exact sumN_next h⟩
  have HXL : Hd (∀ i, X i < 999979) := ⟨fun i => by rw [hX]; exact sumN_lt _⟩
  clear hX
  rw [← HXM.out]
  have hm2 : m ≤ 1048576 := by omega
  clear hs
  go_enter Tryd.func73, Tryd.ntmps73
  go_wp2
  go_loopw [3, 4] (fun v3 v4 wr => ∃ i : Nat, i ≤ m ∧ v4 = .int .i64 i ∧ v3 = .int .i64 (X i : Nat) ∧ wr = w) (fun _ v _ => m - (intOf v).toNat)
  case atStart => exact ⟨0, Nat.zero_le _, rfl, by rw [HX0.out]; rfl, by first | trivial | rfl⟩
  case round =>
    obtain ⟨i, hi, rfl, rfl, rfl⟩ := hrel
    by_cases hlt : i < m
    · skip
      obtain ⟨c, hc⟩ := get_ex (xs := s.data.toList) (k := i) (by rw [data_len, HM.out]; exact hlt)
      obtain ⟨hil, hix⟩ := byte_at hc
      have HN := Hd.mk (HXY.out i c hc)
      have hxl := HXL.out i
      obtain ⟨x, hx⟩ : ∃ x, X i = x := ⟨_, rfl⟩
      rw [hx] at HN hxl
      rw [hx]
      obtain ⟨h1, h2, h3, h4⟩ := sum_step x hxl c
      have hlt2 := sumS_lt x c
      obtain ⟨y, hy⟩ : ∃ y, sumS x c = y := ⟨_, rfl⟩
      rw [hy] at HN h4 hlt2
      have h5 : IntKind.i64.wrap (y : Int) = (y : Int) := IntWalk.i64_in _ (by omega)
      have hcl : c.toNat < 256 := c.toNat_lt
      have h6 : IntKind.i64.wrap (c.toNat : Int) = (c.toNat : Int) := IntWalk.i64_in _ (by omega)
      clear hc hx hy hxl
      go_wp2
      go_roundw
      case rel => exact ⟨i + 1, by omega, by go_num, by rw [HN.out], by first | trivial | rfl⟩
      case measure => (simp [intOf]; try omega)
    · have : i = m := by omega
      subst this
      go_wp2
      go_ret
      exact ⟨rfl, by first | trivial | rfl⟩
set_option maxRecDepth 100000 in
set_option maxHeartbeats 4000000 in
theorem impl_Checksum (s : ByteArray) (w : World) (hs : s.size ≤ 1048576) :
    Calls Tryd.prog 47 #[.string s] w fun e w' => e = (if s.size ≤ 4000 then .returned (.tuple #[.int .i64 (sumN s.data.toList : Nat), .bool true]) else .returned (.tuple #[.int .i64 0, .bool false])) ∧ w' = w := by
  by_cases hb : s.size ≤ 4000
  · rw [if_pos hb]
    obtain ⟨m, hm⟩ : ∃ m, s.size = m := ⟨_, rfl⟩
    have HM := Hd.mk hm
    obtain ⟨X, hX⟩ : ∃ X : Nat → Nat, X = fun i => sumN (s.data.toList.take i) := ⟨_, rfl⟩
    have HX0 : Hd (X 0 = 7) := ⟨by rw [hX]; rfl⟩
    have HXM : Hd (X m = sumN s.data.toList) := ⟨by rw [hX]; simp only; rw [← hm, ← data_len, List.take_length]⟩
    have HXY : Hd (∀ (i : Nat) (c : UInt8), s.data.toList[i]? = some c → X (i + 1) = sumS (X i) c) := ⟨fun i c h => by rw [hX]; exact sumN_next h⟩
    have HXL : Hd (∀ i, X i < 999979) := ⟨fun i => by rw [hX]; exact sumN_lt _⟩
    clear hX
    rw [← HXM.out]
    have hm2 : m ≤ 4000 := by omega
    have hmi : ¬ (4000 : Int) < (m : Int) := by omega
    clear hs hb
    go_enter Tryd.func47, Tryd.ntmps47
    go_wp2
    go_loopw [4, 11] (fun v3 v4 wr => ∃ i : Nat, i ≤ m ∧ v4 = .int .i64 i ∧ v3 = .int .i64 (X i : Nat) ∧ wr = w) (fun _ v _ => m - (intOf v).toNat)
    case atStart => exact ⟨0, Nat.zero_le _, rfl, by rw [HX0.out]; rfl, by first | trivial | rfl⟩
    case round =>
      obtain ⟨i, hi, rfl, rfl, rfl⟩ := hrel
      by_cases hlt : i < m
      · skip
        obtain ⟨c, hc⟩ := get_ex (xs := s.data.toList) (k := i) (by rw [data_len, HM.out]; exact hlt)
        obtain ⟨hil, hix⟩ := byte_at hc
        have HN := Hd.mk (HXY.out i c hc)
        have hxl := HXL.out i
        obtain ⟨x, hx⟩ : ∃ x, X i = x := ⟨_, rfl⟩
        rw [hx] at HN hxl
        rw [hx]
        obtain ⟨h1, h2, h3, h4⟩ := sum_step x hxl c
        have hlt2 := sumS_lt x c
        obtain ⟨y, hy⟩ : ∃ y, sumS x c = y := ⟨_, rfl⟩
        rw [hy] at HN h4 hlt2
        have h5 : IntKind.i64.wrap (y : Int) = (y : Int) := IntWalk.i64_in _ (by omega)
        have hcl : c.toNat < 256 := c.toNat_lt
        have h6 : IntKind.i64.wrap (c.toNat : Int) = (c.toNat : Int) := IntWalk.i64_in _ (by omega)
        clear hc hx hy hxl
        go_wp2
        go_roundw
        case rel => exact ⟨i + 1, by omega, by go_num, by rw [HN.out], by first | trivial | rfl⟩
        case measure => (simp [intOf]; try omega)
      · have : i = m := by omega
        subst this
        go_wp2
        go_ret2
        exact ⟨rfl, by first | trivial | rfl⟩
  · rw [if_neg hb]
    have hbi : (4000 : Int) < (s.size : Int) := by omega
    clear hb hs
    go_enter Tryd.func47, Tryd.ntmps47
    go_wp2
    go_ret2
    exact ⟨rfl, rfl⟩
set_option maxRecDepth 100000 in
set_option maxHeartbeats 4000000 in
theorem spec_l1Seal (S : HP) (w : World) [H : SepI w S] (s : ByteArray) (hs : s.size ≤ 1048576) :
    Calls Tryd.prog 46 #[.string s] w fun e w' => e = .returned (.string (sealB s)) ∧ Post w S w' := by
  have HSB : Hd (s ++ mkT [35] ++ numB (sumN s.data.toList : Nat) = sealB s) := ⟨rfl⟩
  have hnl := sumN_lt s.data.toList
  obtain ⟨h, hh⟩ : ∃ h, sumN s.data.toList = h := ⟨_, rfl⟩
  have HH := Hd.mk hh
  rw [hh] at HSB hnl
  have hns := num_size (h : Int) (by omega) (by omega)
  have HSM := Hd.mk (spec_l1Sum s)
  rw [hh] at HSM
  clear hh
  go_enter Tryd.func46, Tryd.ntmps46
  go_wp2_with fail
  refine (HSM.out _ hs).mono ?_
  rintro e wz ⟨rfl, hz⟩
  have hz2 := hz.symm
  subst hz2
  clear hz
  go_wp2_with fail
  refine (spec_l1NumA _ _ (h : Int) (by omega) (by omega)).mono ?_
  rintro e w2 ⟨rfl, HP⟩
  have HS2 := HP.sep
  have HE2 := HP.ext
  clear HP
  go_wp2
  go_ret
  exact ⟨by rw [← HSB.out]; rfl, Post.mk' inferInstance inferInstance⟩
def appOk (s : ByteArray) : Bool := decide (s.size ≤ 4000) && (!s.data.toList.contains 35 && decide ((sealB s).size ≤ 4000))
def ans_App (s : ByteArray) : ByteArray × Bool := if appOk s then (sealB s, true) else (ByteArray.mk #[], false)
theorem ans_App_yes {s : ByteArray} (h : appOk s = true) : ans_App s = (sealB s, true) := by unfold ans_App; rw [if_pos h]
theorem ans_App_no {s : ByteArray} (h : appOk s = false) : ans_App s = (ByteArray.mk #[], false) := by unfold ans_App; rw [h]; rfl
set_option maxRecDepth 100000 in
set_option maxHeartbeats 4000000 in
theorem impl_AppendChecksum (S : HP) (w : World) [H : SepI w S] [t : TabI S] (s : ByteArray) (hs : s.size ≤ 1048576) :
    Calls Tryd.prog 19 #[.string s] w (StrOk S (ans_App s) w) := by
  have hnot : ∀ (x : Bool) (w : World), (Op.unary .not (.bool x)).run Tryd.prog w = .ok (.bool (!x)) w := fun _ _ => rfl
  by_cases hb : s.size ≤ 4000
  · have HSB : Hd (s ++ mkT [35] ++ numB (sumN s.data.toList : Nat) = sealB s) := ⟨rfl⟩
    have hnl := sumN_lt s.data.toList
    have HCK := Hd.mk (impl_Checksum s)
    obtain ⟨h, hh⟩ : ∃ h, sumN s.data.toList = h := ⟨_, rfl⟩
    have HH := Hd.mk hh
    simp only [if_pos hb, hh] at HCK
    rw [hh] at HSB hnl
    have hns := num_size (h : Int) (by omega) (by omega)
    obtain ⟨q, hq⟩ : ∃ q, s.data.toList.contains 35 = q := ⟨_, rfl⟩
    have HCT : Hd (∀ w, Calls Tryd.prog 48 #[.string s, .string ⟨#[35]⟩] w fun e w' => e = .returned (.bool q) ∧ w' = w) := ⟨fun w => by
      have h1 := Tryd.strings_Contains_one s 35 w
      rw [← Lib.contains_iff_indexByte, hq] at h1
      exact h1⟩
    cases q
    · by_cases hz : (sealB s).size ≤ 4000
      · have HOK : Hd (ans_App s = (sealB s, true)) := ⟨ans_App_yes (by unfold appOk; rw [hq, decide_eq_true hb, decide_eq_true hz]; rfl)⟩
        have hzi : ¬ (4000 : Int) < ((s ++ ⟨#[35]⟩ ++ numB (h : Int)).size : Int) := by
          have : (s ++ ⟨#[35]⟩ ++ numB (h : Int)) = sealB s := HSB.out
          rw [this]; omega
        obtain ⟨nb, hnb⟩ : ∃ nb, numB (h : Int) = nb := ⟨_, rfl⟩
        have HNB := Hd.mk hnb
        rw [hnb] at HSB hns hzi
        have hzn : s.size + 1 + nb.size ≤ 4000 := by
          have e : (s ++ mkT [35] ++ nb).size = s.size + 1 + nb.size := by rw [ByteArray.size_append, ByteArray.size_append, mkT_size]; rfl
          rw [HSB.out] at e; omega
        rw [HOK.out]
        clear hh hq hnb hz
        go_enter Tryd.func19, Tryd.ntmps19
        go_wp2_with fail
        refine (HCK.out _ hs).mono ?_
        rintro e wz ⟨rfl, hz⟩
        have hz2 := hz.symm
        subst hz2
        clear hz
        go_wp2_with fail
        refine (impl_Itoa _ _ (h : Int) (by omega) (by omega)).mono ?_
        rw [HNB.out]
        rintro e w2 ⟨rfl, HP⟩
        have HS2 := HP.sep
        have HE2 := HP.ext
        clear HP
        go_wp2_with (go_at_call 48; refine (HCT.out _).mono ?_; rintro e wz ⟨rfl, hz⟩; have hz2 := hz.symm; subst hz2; clear hz)
        refine bodyPost_ret (v := .tuple #[.string (s ++ ⟨#[35]⟩ ++ nb), .bool true]) (by simp [results, Tryd.results19, go_sem]) rfl ?_
        exact ⟨by rw [← HSB.out]; rfl, Post.mk' inferInstance inferInstance⟩
      · have HOK : Hd (ans_App s = (ByteArray.mk #[], false)) := ⟨ans_App_no (by unfold appOk; rw [hq, decide_eq_true hb, decide_eq_false hz]; rfl)⟩
        obtain ⟨nb, hnb⟩ : ∃ nb, numB (h : Int) = nb := ⟨_, rfl⟩
        have HNB := Hd.mk hnb
        rw [hnb] at HSB hns
        have hzn : 4000 < s.size + 1 + nb.size := by
          have e : (s ++ mkT [35] ++ nb).size = s.size + 1 + nb.size := by rw [ByteArray.size_append, ByteArray.size_append, mkT_size]; rfl
          rw [HSB.out] at e; omega
        have hzi : (4000 : Int) < (s.size : Int) + 1 + (nb.size : Int) := by omega
        rw [HOK.out]
        clear hh hq hnb hz
        go_enter Tryd.func19, Tryd.ntmps19
        go_wp2_with fail
        refine (HCK.out _ hs).mono ?_
        rintro e wz ⟨rfl, hz⟩
        have hz2 := hz.symm
        subst hz2
        clear hz
        go_wp2_with fail
        refine (impl_Itoa _ _ (h : Int) (by omega) (by omega)).mono ?_
        rw [HNB.out]
        rintro e w2 ⟨rfl, HP⟩
        have HS2 := HP.sep
        have HE2 := HP.ext
        clear HP
        go_wp2_with (go_at_call 48; refine (HCT.out _).mono ?_; rintro e wz ⟨rfl, hz⟩; have hz2 := hz.symm; subst hz2; clear hz)
        refine bodyPost_ret (v := .tuple #[.string ⟨#[]⟩, .bool false]) (by simp [results, Tryd.results19, go_sem]) rfl ?_
        exact ⟨rfl, Post.mk' inferInstance inferInstance⟩
    · have HOK : Hd (ans_App s = (ByteArray.mk #[], false)) := ⟨ans_App_no (by unfold appOk; rw [hq, Bool.not_true, Bool.false_and, Bool.and_false])⟩
      rw [HOK.out]
      obtain ⟨nb, hnb⟩ : ∃ nb, numB (h : Int) = nb := ⟨_, rfl⟩
      have HNB := Hd.mk hnb
      rw [hnb] at hns
      clear hh hq hnb
      go_enter Tryd.func19, Tryd.ntmps19
      go_wp2_with fail
      refine (HCK.out _ hs).mono ?_
      rintro e wz ⟨rfl, hz⟩
      have hz2 := hz.symm
      subst hz2
      clear hz
      go_wp2_with fail
      refine (impl_Itoa _ _ (h : Int) (by omega) (by omega)).mono ?_
      rw [HNB.out]
      rintro e w2 ⟨rfl, HP⟩
      have HS2 := HP.sep
      have HE2 := HP.ext
      clear HP
      go_wp2_with (go_at_call 48; refine (HCT.out _).mono ?_; rintro e wz ⟨rfl, hz⟩; have hz2 := hz.symm; subst hz2; clear hz)
      refine bodyPost_ret (v := .tuple #[.string ⟨#[]⟩, .bool false]) (by simp [results, Tryd.results19, go_sem]) rfl ?_
      exact ⟨rfl, Post.mk' inferInstance inferInstance⟩
  · have HOK : Hd (ans_App s = (ByteArray.mk #[], false)) := ⟨ans_App_no (by unfold appOk; rw [decide_eq_false hb]; rfl)⟩
    have HCK := Hd.mk (impl_Checksum s)
    simp only [if_neg hb] at HCK
    have hns := num_size (0 : Int) (by omega) (by omega)
    obtain ⟨nb, hnb⟩ : ∃ nb, numB (0 : Int) = nb := ⟨_, rfl⟩
    have HNB := Hd.mk hnb
    rw [hnb] at hns
    rw [HOK.out]
    clear hnb
    go_enter Tryd.func19, Tryd.ntmps19
    go_wp2_with fail
    refine (HCK.out _ hs).mono ?_
    rintro e wz ⟨rfl, hz⟩
    have hz2 := hz.symm
    subst hz2
    clear hz
    go_wp2_with fail
    refine (impl_Itoa _ _ (0 : Int) (by omega) (by omega)).mono ?_
    rw [HNB.out]
    rintro e w2 ⟨rfl, HP⟩
    have HS2 := HP.sep
    have HE2 := HP.ext
    clear HP
    go_wp2
    refine bodyPost_ret (v := .tuple #[.string ⟨#[]⟩, .bool false]) (by simp [results, Tryd.results19, go_sem]) rfl ?_
    exact ⟨rfl, Post.mk' inferInstance inferInstance⟩
set_option maxRecDepth 100000 in
set_option maxHeartbeats 4000000 in
theorem spec_AppendChecksum (S : HP) (w : World) [H : SepI w S] (s : ByteArray) (hs : s.size ≤ 1048576) :
    Calls Tryd.prog 18 #[.string s] w (StrOk S (ans_App s) w) := by
  have hnot : ∀ (x : Bool) (w : World), (Op.unary .not (.bool x)).run Tryd.prog w = .ok (.bool (!x)) w := fun _ _ => rfl
  obtain ⟨q, hq⟩ : ∃ q, s.data.toList.contains 35 = q := ⟨_, rfl⟩
  have HST : Hd (∀ w, Calls Tryd.prog 45 #[.string s, .int .u8 35] w fun e w' => e = .returned (.bool q) ∧ w' = w) := ⟨fun w => spec_l1Stands s 35 w (by unfold maxLen; omega) q hq⟩
  obtain ⟨z, hz⟩ : ∃ z, sealB s = z := ⟨_, rfl⟩
  have HSL := Hd.mk hz
  by_cases hb : s.size ≤ 4000
  · have hbi : ¬ (4000 : Int) < (s.size : Int) := by omega
    cases q
    · by_cases hzz : z.size ≤ 4000
      · have HOK : Hd (ans_App s = (z, true)) := ⟨by rw [← hz]; exact ans_App_yes (by unfold appOk; rw [hq, decide_eq_true hb, hz, decide_eq_true hzz]; rfl)⟩
        have hzi : ¬ (4000 : Int) < (z.size : Int) := by omega
        rw [HOK.out]
        clear hz hq hzz
        go_enter Tryd.func18, Tryd.ntmps18
        go_wp2_with fail
        refine (HST.out _).mono ?_
        rintro e wz ⟨rfl, hz⟩
        have hz2 := hz.symm
        subst hz2
        clear hz
        go_wp2_with fail
        refine (spec_l1Seal _ _ s hs).mono ?_
        rw [HSL.out]
        rintro e w2 ⟨rfl, HP⟩
        have HS2 := HP.sep
        have HE2 := HP.ext
        clear HP
        go_wp2_with fail
        refine (spec_l1Seal _ _ s hs).mono ?_
        rw [HSL.out]
        rintro e w3 ⟨rfl, HP⟩
        have HS3 := HP.sep
        have HE3 := HP.ext
        clear HP
        go_wp2
        refine bodyPost_ret (v := .tuple #[.string z, .bool true]) (by simp [results, Tryd.results18, go_sem]) rfl ?_
        exact ⟨rfl, Post.mk' inferInstance inferInstance⟩
      · have HOK : Hd (ans_App s = (ByteArray.mk #[], false)) := ⟨ans_App_no (by unfold appOk; rw [hq, decide_eq_true hb, hz, decide_eq_false hzz]; rfl)⟩
        have hzi : (4000 : Int) < (z.size : Int) := by omega
        rw [HOK.out]
        clear hz hq hzz
        go_enter Tryd.func18, Tryd.ntmps18
        go_wp2_with fail
        refine (HST.out _).mono ?_
        rintro e wz ⟨rfl, hz⟩
        have hz2 := hz.symm
        subst hz2
        clear hz
        go_wp2_with fail
        refine (spec_l1Seal _ _ s hs).mono ?_
        rw [HSL.out]
        rintro e w2 ⟨rfl, HP⟩
        have HS2 := HP.sep
        have HE2 := HP.ext
        clear HP
        go_wp2
        refine bodyPost_ret (v := .tuple #[.string ⟨#[]⟩, .bool false]) (by simp [results, Tryd.results18, go_sem]) rfl ?_
        exact ⟨rfl, Post.mk' inferInstance inferInstance⟩
    · have HOK : Hd (ans_App s = (ByteArray.mk #[], false)) := ⟨ans_App_no (by unfold appOk; rw [hq, Bool.not_true, Bool.false_and, Bool.and_false])⟩
      rw [HOK.out]
      clear hz hq
      go_enter Tryd.func18, Tryd.ntmps18
      go_wp2_with fail
      refine (HST.out _).mono ?_
      rintro e wz ⟨rfl, hz⟩
      have hz2 := hz.symm
      subst hz2
      clear hz
      go_wp2
      refine bodyPost_ret (v := .tuple #[.string ⟨#[]⟩, .bool false]) (by simp [results, Tryd.results18, go_sem]) rfl ?_
      exact ⟨rfl, Post.mk' inferInstance inferInstance⟩
  · have HOK : Hd (ans_App s = (ByteArray.mk #[], false)) := ⟨ans_App_no (by unfold appOk; rw [decide_eq_false hb]; rfl)⟩
    have hbi : (4000 : Int) < (s.size : Int) := by omega
    rw [HOK.out]
    clear hz hq
    go_enter Tryd.func18, Tryd.ntmps18
    go_wp2
    refine bodyPost_ret (v := .tuple #[.string ⟨#[]⟩, .bool false]) (by simp [results, Tryd.results18, go_sem]) rfl ?_
    exact ⟨rfl, Post.mk' inferInstance inferInstance⟩
set_option maxRecDepth 100000 in
set_option maxHeartbeats 4000000 in
theorem law_AppendChecksum (S : HP) (w : World) [H : SepI w S] [t : TabI S] (s : ByteArray) (hs0 : s.size ≤ 140737488351232) :
    Calls Tryd.prog 5 #[.string s] w fun e w' => e = .returned (.bool true) ∧ Post w S w' := by
  by_cases hb : s.size ≤ 1048576
  · obtain ⟨ans, hans⟩ : ∃ ans, ans_App s = ans := ⟨_, rfl⟩
    have HANS := Hd.mk hans
    have hbi : ¬ (1048576 : Int) < (s.size : Int) := by omega
    clear hans
    go_enter Tryd.func5, Tryd.ntmps5
    go_wp2_with fail
    refine (spec_AppendChecksum _ _ s hb).mono ?_
    rw [HANS.out]
    rintro e w1 ⟨rfl, HP⟩
    have HS1 := HP.sep
    have HE1 := HP.ext
    clear HP
    go_wp2_with fail
    refine (impl_AppendChecksum _ _ s hb).mono ?_
    rw [HANS.out]
    obtain ⟨av, ao⟩ := ans
    rintro e w2 ⟨rfl, HP⟩
    have HS2 := HP.sep
    have HE2 := HP.ext
    clear HP
    go_wp2
    go_ret
    exact ⟨rfl, Post.mk' inferInstance inferInstance⟩
  · have hbi : (1048576 : Int) < (s.size : Int) := by omega
    clear hb
    go_enter Tryd.func5, Tryd.ntmps5
    go_wp2
    go_ret
    exact ⟨rfl, Post.mk' inferInstance inferInstance⟩
end Go.Proofs.YtnioipbofopocaaDoor
