/- ParseInt by the program and by the reference, and its law. Conditions: the table of powers of ten and the two sentinels read as they are laid. -/
import Derived.Test.YtnioipbofopocaaDoorUa
import Derived.Test.YtnioipbofopocaaDoorTd
import Derived.Test.YtnioipbofopocaaDoorTv
import Derived.Lib.AtoiErrMem
namespace Go.Proofs.YtnioipbofopocaaDoor
open Go.RowKit SL
attribute [local go_sem] cell_blk frozen_blk lt_blk cell_at frozen_row lt_row
set_option linter.unusedVariables false
set_option linter.unusedSimpArgs false

/-- What the two sentinels hold. -/
class ErrI (S : HP) : Prop where
  syn : ∀ w, SepI w S → ∃ tp p, w.var? Tryd.prog "strconv.ErrSyntax" = some #[.iface tp p]
  rng : ∀ w, SepI w S → ∃ tp p, w.var? Tryd.prog "strconv.ErrRange" = some #[.iface tp p]
instance (priority := low) ErrI.there (X S : HP) [i : ErrI S] : ErrI (X * S) := ⟨fun w H => i.syn w H.right, fun w H => i.rng w H.right⟩
theorem starE : "*" ++ "errors.errorString" = "*errors.errorString" := by decide
theorem row_errorString (u : TypeId) (h : Tryd.prog.typeName? 3 u = some "*errors.errorString") : u = 166 :=
  typeName_ptr_named (nm := "errors.errorString") (by rw [starE]; kernel_rfl) (by kernel_rfl) (by decide) u (by rw [starE]; exact h)
theorem errI_of_met {W : World} {r : List (String × DataW Unit)} (h : laidMet Tryd.prog (("strconv.ErrRange", Rows.laid_strconv_ErrRange) :: ("strconv.ErrSyntax", Rows.laid_strconv_ErrSyntax) :: r) W) : ErrI (old W) := by
  obtain ⟨a1, _, h1, _⟩ := laid_sentinel (g := 2) (ti := 68) h (by kernel_rfl) (by kernel_rfl) Tryd.underlying68 row_errorString Tryd.underlying166 Tryd.underlying168 rfl rfl Tryd.underlying9 (by kernel_rfl) (by kernel_rfl)
  obtain ⟨a2, _, h2, _⟩ := laid_sentinel (g := 1) (ti := 68) h.tail (by kernel_rfl) (by kernel_rfl) Tryd.underlying68 row_errorString Tryd.underlying166 Tryd.underlying168 rfl rfl Tryd.underlying9 (by kernel_rfl) (by kernel_rfl)
  exact ⟨fun w H => ⟨_, _, var_old H h2⟩, fun w H => ⟨_, _, var_old H h1⟩⟩
theorem Post.under {S : HP} {w w' : World} (H : SepI w S) (hb : Below w.heap.size w w') : Post w S w' := Post.mk' (H.below hb) ⟨hb.os, hb.tape, hb.output, hb.size⟩
theorem impl_Atoi_ok (S : HP) (w : World) [H : SepI w S] (s : ByteArray) (hs : s.size ≤ 1048576) (v : Int) (h : Lib.atoiAll s.data.toList = .ok v) :
    Calls Tryd.prog 51 #[.string s] w fun e w' => e = .returned (.tuple #[.int .i64 v, .nilIface]) ∧ Post w S w' := by
  refine (Tryd.strconv_Atoi_ok s (by omega) v h w).mono ?_
  rintro e w' ⟨rfl, hw⟩
  refine ⟨rfl, ?_⟩
  rcases hw with rfl | ⟨t, rfl⟩
  · exact Post.mk' H inferInstance
  · exact Post.under H (Lib.bytesWorld_below _ _ _)
theorem impl_Atoi_no (S : HP) (w : World) [H : SepI w S] [t : ErrI S] (s : ByteArray) (hs : s.size ≤ 1048576) (h : ∀ v, Lib.atoiAll s.data.toList ≠ .ok v) :
    Calls Tryd.prog 51 #[.string s] w fun e w' => ∃ (v : Int) (T : TypeId) (p : Option Addr), e = .returned (.tuple #[.int .i64 v, .iface T (.pointer p)]) ∧ Post w S w' := by
  cases hh : Lib.atoiAll s.data.toList with
  | ok v => exact absurd hh (h v)
  | range =>
    obtain ⟨tp, p, hv⟩ := t.rng w H
    refine (Tryd.strconv_Atoi_range_var s (by omega) hh tp p w hv).mono ?_
    rintro e w' ⟨N, rfl, _, _, hb⟩
    exact ⟨_, _, _, rfl, Post.under H hb⟩
  | _ =>
    obtain ⟨tp, p, hv⟩ := t.syn w H
    refine (Tryd.strconv_Atoi_syntax_var s (by omega) hh tp p w hv).mono ?_
    rintro e w' ⟨N, rfl, _, _, hb⟩
    exact ⟨_, _, _, rfl, Post.under H hb⟩
def IntOk (S : HP) (a : Int × Bool) (w : World) (e : Ending) (w' : World) : Prop := e = .returned (.tuple #[.int .i64 a.1, .bool a.2]) ∧ Post w S w'
set_option maxRecDepth 100000 in
set_option maxHeartbeats 4000000 in
theorem impl_ParseInt (S : HP) (w : World) [H : SepI w S] [t : TabI S] [x : ErrI S] (s : ByteArray) (hs : s.size ≤ 1048576) :
    Calls Tryd.prog 23 #[.string s] w (IntOk S (ans_Int s) w) := by
  have hnot : ∀ (x : Bool) (w : World), (Op.unary .not (.bool x)).run Tryd.prog w = .ok (.bool (!x)) w := fun _ _ => rfl
  by_cases hex : ∃ v, Lib.atoiAll s.data.toList = .ok v
  · obtain ⟨v, hv⟩ := hex
    have HA := Hd.mk hv
    have hvb := Lib.atoiAll_bounds hv
    obtain ⟨nb, hnb⟩ : ∃ nb, numB v = nb := ⟨_, rfl⟩
    have HNB := Hd.mk hnb
    by_cases hne : nb = s
    · subst hne
      obtain ⟨q, hq⟩ : ∃ q, inB v (-999999) 999999 = q := ⟨_, rfl⟩
      have HQ := Hd.mk hq
      cases q
      · have HOK : Hd (ans_Int nb = (0, false)) := ⟨ans_Int_no fun n hn => by
          have e : Lib.atoiAll nb.data.toList = .ok n := by rw [← hn.2.2, numB_data]; exact atoi_itoa hn.1 hn.2.1
          rw [hv] at e
          injection e with e
          have h1 := hn.1
          have h2 := hn.2.1
          rw [← e] at h1 h2
          have : inB v (-999999) 999999 = true := by simp [inB]; omega
          rw [hq] at this; cases this⟩
        rw [HOK.out]
        clear hv hnb hq
        go_enter Tryd.func23, Tryd.ntmps23
        go_wp2_with fail
        refine (impl_Atoi_ok _ _ nb hs v HA.out).mono ?_
        rintro e w1 ⟨rfl, HP⟩
        have HS1 := HP.sep
        have HE1 := HP.ext
        clear HP
        go_wp2_with fail
        refine (impl_Itoa _ _ v (by omega) (by omega)).mono ?_
        rw [HNB.out]
        rintro e w2 ⟨rfl, HP⟩
        have HS2 := HP.sep
        have HE2 := HP.ext
        clear HP
        go_wp2_with fail
        refine (impl_in v _ _ false _ HQ.out).mono ?_
        rintro e wz ⟨rfl, hz⟩
        have hz2 := hz.symm
        subst hz2
        clear hz
        go_wp2
        refine bodyPost_ret (v := .tuple #[.int .i64 0, .bool false]) (by simp [results, Tryd.results23, go_sem]) rfl ?_
        exact ⟨rfl, Post.mk' inferInstance inferInstance⟩
      · have hb := inB_true hq
        have HOK : Hd (ans_Int nb = (v, true)) := ⟨ans_Int_yes ⟨by omega, by omega, hnb⟩⟩
        rw [HOK.out]
        clear hv hnb hq
        go_enter Tryd.func23, Tryd.ntmps23
        go_wp2_with fail
        refine (impl_Atoi_ok _ _ nb hs v HA.out).mono ?_
        rintro e w1 ⟨rfl, HP⟩
        have HS1 := HP.sep
        have HE1 := HP.ext
        clear HP
        go_wp2_with fail
        refine (impl_Itoa _ _ v (by omega) (by omega)).mono ?_
        rw [HNB.out]
        rintro e w2 ⟨rfl, HP⟩
        have HS2 := HP.sep
        have HE2 := HP.ext
        clear HP
        go_wp2_with fail
        refine (impl_in v _ _ true _ HQ.out).mono ?_
        rintro e wz ⟨rfl, hz⟩
        have hz2 := hz.symm
        subst hz2
        clear hz
        go_wp2
        refine bodyPost_ret (v := .tuple #[.int .i64 v, .bool true]) (by simp [results, Tryd.results23, go_sem]) rfl ?_
        exact ⟨rfl, Post.mk' inferInstance inferInstance⟩
    · have hnl := ne_list hne
      have HOK : Hd (ans_Int s = (0, false)) := ⟨ans_Int_no fun n hn => by
        have e : Lib.atoiAll s.data.toList = .ok n := by rw [← hn.2.2, numB_data]; exact atoi_itoa hn.1 hn.2.1
        rw [hv] at e
        injection e with e
        exact hne (by rw [← hnb, e]; exact hn.2.2)⟩
      rw [HOK.out]
      clear hv hnb hne
      go_enter Tryd.func23, Tryd.ntmps23
      go_wp2_with fail
      refine (impl_Atoi_ok _ _ s hs v HA.out).mono ?_
      rintro e w1 ⟨rfl, HP⟩
      have HS1 := HP.sep
      have HE1 := HP.ext
      clear HP
      go_wp2_with fail
      refine (impl_Itoa _ _ v (by omega) (by omega)).mono ?_
      rw [HNB.out]
      rintro e w2 ⟨rfl, HP⟩
      have HS2 := HP.sep
      have HE2 := HP.ext
      clear HP
      go_wp2
      refine bodyPost_ret (v := .tuple #[.int .i64 0, .bool false]) (by simp [results, Tryd.results23, go_sem]) rfl ?_
      exact ⟨rfl, Post.mk' inferInstance inferInstance⟩
  · have HOK : Hd (ans_Int s = (0, false)) := ⟨ans_Int_no fun n hn => hex ⟨n, by rw [← hn.2.2, numB_data]; exact atoi_itoa hn.1 hn.2.1⟩⟩
    rw [HOK.out]
    have HX : Hd (∀ v, Lib.atoiAll s.data.toList ≠ .ok v) := ⟨fun v h => hex ⟨v, h⟩⟩
    clear hex
    go_enter Tryd.func23, Tryd.ntmps23
    go_wp2_with fail
    refine (impl_Atoi_no _ _ s hs HX.out).mono ?_
    rintro e w1 ⟨v, T, p, rfl, HP⟩
    have HS1 := HP.sep
    have HE1 := HP.ext
    clear HP
    go_wp2
    refine bodyPost_ret (v := .tuple #[.int .i64 0, .bool false]) (by simp [results, Tryd.results23, go_sem]) rfl ?_
    exact ⟨rfl, Post.mk' inferInstance inferInstance⟩
theorem read_same {s : ByteArray} {n : Nat} {k v : Int} (hT : Lib.decFrom 0 (tailI s.data.toList) = some n) (hv : ((tailI s.data.toList).length < s.data.toList.length ∧ v = -(n : Int)) ∨ (¬ (tailI s.data.toList).length < s.data.toList.length ∧ v = (n : Int))) (h : IsNum s k) : k = v := by
  obtain ⟨_, _, h3, h4⟩ := isNum_tail h
  rw [hT] at h3
  injection h3 with h3
  rcases hv with ⟨h5, rfl⟩ | ⟨h5, rfl⟩
  · have := h4.1 h5
    omega
  · have : ¬ k < 0 := fun h6 => h5 (h4.2 h6)
    omega
theorem dec6 {l : List UInt8} {n : Nat} (h : Lib.decFrom 0 l = some n) (hl : l.length ≤ 6) : n ≤ 999999 := by
  have h1 := Lib.decFrom_lt l 0 n h
  have h2 := Nat.pow_le_pow_right (n := 10) (by decide) hl
  have e : (10 : Nat) ^ 6 = 1000000 := by decide
  omega
theorem sub48 (c : UInt8) (d : Nat) (h : c.toNat = 48 + d) : IntKind.u8.wrap ((c.toNat : Int) - 48) = (d : Int) := by
  have := c.toNat_lt
  rw [show (c.toNat : Int) - 48 = (d : Int) from by omega]
  unfold IntKind.wrap
  simp [IntKind.bits, IntKind.signed]
  omega
set_option maxRecDepth 100000 in
set_option maxHeartbeats 4000000 in
theorem spec_l1Read (S : HP) (w : World) [H : SepI w S] (s : ByteArray) (hs : s.size ≤ 1048576) :
    Calls Tryd.prog 50 #[.string s] w (IntOk S (ans_Int s) w) := by
  have hnot : ∀ (x : Bool) (w : World), (Op.unary .not (.bool x)).run Tryd.prog w = .ok (.bool (!x)) w := fun _ _ => rfl
  by_cases h1 : 1 < s.size
  · have h1i : (1 : Int) < (s.size : Int) := by omega
    obtain ⟨c0, hc0⟩ := get_ex (xs := s.data.toList) (k := 0) (by rw [data_len]; omega)
    obtain ⟨hi0, hx0⟩ := byte_at hc0
    by_cases h45 : c0 = 45
    · have hTD : (s.extract 1 s.size).data.toList = tailI s.data.toList := by
        rw [tailI_neg (by rw [data_len]; exact h1) (by rw [hc0, h45])]
        exact Lib.extract_to_end s 1
      have hsz : (s.extract 1 s.size).size = s.size - 1 := by rw [← data_len, Lib.extract_to_end s 1, List.length_drop, data_len]
      obtain ⟨T, hT⟩ : ∃ T, s.extract 1 s.size = T := ⟨_, rfl⟩
      rw [hT] at hTD hsz
      have hb0 : ((c0.toNat : Int) == 45) = true := by rw [h45]; rfl
      have hcmp : (T.size : Int) < (s.size : Int) := by omega
      obtain ⟨m, hm⟩ : ∃ m, T.size = m := ⟨_, rfl⟩
      have hms : (T.size : Int) = (m : Int) := by rw [hm]
      obtain ⟨E, hE⟩ : ∃ E, T.data.toList = E := ⟨_, rfl⟩
      have HEL : Hd (E.length = m) := ⟨by rw [← hE, data_len, hm]⟩
      have HB : Hd (∀ (i : Nat) (c : UInt8), E[i]? = some c → ∃ hi : i < T.size, T[i]'hi = c) := ⟨fun i c h => by rw [← hE] at h; exact byte_at h⟩
      have hET : E = tailI s.data.toList := hE.symm.trans hTD
      have HLT : Hd ((tailI s.data.toList).length < s.data.toList.length) := ⟨by rw [← hET, HEL.out, data_len]; omega⟩
      obtain ⟨q, hq⟩ : ∃ q, inB (m : Int) 1 6 = q := ⟨_, rfl⟩
      have HQ := Hd.mk hq
      have HNQ : Hd (q = false → Hd (ans_Int s = (0, false))) := ⟨fun hqf => ⟨ans_Int_no fun k hk => by
        obtain ⟨h1, h2, _⟩ := isNum_tail hk
        rw [← hET, HEL.out] at h1 h2
        have : inB (m : Int) 1 6 = true := by simp [inB]; omega
        rw [hq, hqf] at this; cases this⟩⟩
      have HYQ : Hd (q = true → Hd (m ≤ 6)) := ⟨fun hqt => ⟨by rw [hqt] at hq; have := inB_true hq; omega⟩⟩
      have HND : Hd (∀ (k : Nat) (c : UInt8), E[k]? = some c → ¬ (48 ≤ c.toNat ∧ c.toNat ≤ 57) → Hd (ans_Int s = (0, false))) := ⟨fun k c hc hn => ⟨ans_Int_no fun z hz => by
        obtain ⟨_, _, h3, _⟩ := isNum_tail hz
        rw [← hET] at h3
        obtain ⟨d, hd⟩ := Lib.digit_of_decFrom _ 0 _ h3 k c hc
        exact hn ⟨(Lib.digitVal_eq hd).1, (Lib.digitVal_eq hd).2.1⟩⟩⟩
      have HN6 : Hd (∀ n, Lib.decFrom 0 E = some n → Hd (m ≤ 6 → n ≤ 999999)) := ⟨fun n h => ⟨fun h6 => dec6 h (by rw [HEL.out]; exact h6)⟩⟩
      have HMS : Hd (∀ n : Nat, Lib.decFrom 0 E = some n → ¬ numB (-(n : Int)) = s → Hd (ans_Int s = (0, false))) := ⟨fun n h hn => ⟨ans_Int_no fun z hz => by
        have : z = (-(n : Int)) := read_same (n := n) (by rw [← hET]; exact h) (.inl ⟨HLT.out, rfl⟩) hz
        exact hn (by rw [← this]; exact hz.2.2)⟩⟩
      clear hm hE hET hTD hq
      have hcm2 : (m : Int) < (s.size : Int) := by omega
      clear hc0 h45 hsz h1
      go_enter Tryd.func50, Tryd.ntmps50
      go_wp2_with fail
      refine (spec_in (m : Int) _ _ q _ HQ.out).mono ?_
      rintro e wz ⟨rfl, hz⟩
      have hz2 := hz.symm
      subst hz2
      clear hz
      cases q
      · have HZ0 := HNQ.out rfl
        go_wp2
        refine bodyPost_ret (v := .tuple #[.int .i64 0, .bool false]) (by simp [results, Tryd.results50, go_sem]) rfl ?_
        rw [HZ0.out]
        exact ⟨rfl, Post.mk' inferInstance inferInstance⟩
      · have hm6 := (HYQ.out rfl).out
        go_wp2
        go_loopw [5, 6] (fun v5 v6 wr => ∃ k n : Nat, k ≤ m ∧ v6 = .int .i64 k ∧ v5 = .int .i64 n ∧ n < 100000000000000000 ∧ Hd (Lib.decFrom 0 (E.take k) = some n) ∧ wr = w) (fun _ v _ => m - (intOf v).toNat)
        case atStart => exact ⟨0, 0, Nat.zero_le _, rfl, rfl, by omega, ⟨rfl⟩, by first | trivial | rfl⟩
        case round =>
          obtain ⟨k, n, hk, rfl, rfl, hnb, HDF, rfl⟩ := hrel
          by_cases hlt : k < m
          · obtain ⟨c, hc⟩ := get_ex (xs := E) (k := k) (by rw [HEL.out]; exact hlt)
            obtain ⟨hil, hix⟩ := HB.out k c hc
            have HC := Hd.mk hc
            have hcl : c.toNat < 256 := c.toNat_lt
            by_cases h48 : c.toNat < 48
            · have h48i : (c.toNat : Int) < 48 := by omega
              have HZ := HND.out k c hc (fun h => by omega)
              clear hc h48
              go_wp2
              refine bodyPost_ret (v := .tuple #[.int .i64 0, .bool false]) (by simp [results, Tryd.results50, go_sem]) rfl ?_
              rw [HZ.out]
              exact ⟨rfl, Post.mk' inferInstance inferInstance⟩
            · have h48i : ¬ (c.toNat : Int) < 48 := by omega
              by_cases h57 : 57 < c.toNat
              · have h57i : (57 : Int) < (c.toNat : Int) := by omega
                have HZ := HND.out k c hc (fun h => by omega)
                clear hc h48 h57
                go_wp2
                refine bodyPost_ret (v := .tuple #[.int .i64 0, .bool false]) (by simp [results, Tryd.results50, go_sem]) rfl ?_
                rw [HZ.out]
                exact ⟨rfl, Post.mk' inferInstance inferInstance⟩
              · have h57i : ¬ (57 : Int) < (c.toNat : Int) := by omega
                obtain ⟨d, hd⟩ : ∃ d : Nat, c.toNat = 48 + d := ⟨c.toNat - 48, by omega⟩
                have hdl : d ≤ 9 := by omega
                have hw1 : IntKind.u8.wrap ((c.toNat : Int) - 48) = (d : Int) := sub48 c d hd
                have hw2 : IntKind.i64.wrap (d : Int) = (d : Int) := IntWalk.i64_in _ (by omega)
                have hw3 : IntKind.i64.wrap (10 * (n : Int)) = 10 * (n : Int) := IntWalk.i64_in _ (by omega)
                obtain ⟨n2, hn2⟩ : ∃ n2 : Nat, n * 10 + d = n2 := ⟨_, rfl⟩
                have hw4 : IntKind.i64.wrap (10 * (n : Int) + (d : Int)) = (n2 : Int) := by rw [IntWalk.i64_in _ (by omega)]; omega
                have HDN : Hd (Lib.decFrom 0 (E.take (k + 1)) = some n2) := ⟨by
                  have := Lib.decFrom_take E k 0 n c d HDF.out hc (by unfold Lib.digitVal; rw [if_pos (by omega), hd]; congr 1; omega)
                  rw [hn2] at this; exact this⟩
                have hn2b : n2 < 100000000000000000 := Lib.decFrom_take_lt HDN.out (by omega)
                clear hc hd h48 h57 hn2
                go_wp2
                go_roundw
                case rel => exact ⟨k + 1, n2, by omega, by go_num, rfl, hn2b, HDN, by first | trivial | rfl⟩
                case measure => (simp [intOf]; try omega)
          · have : k = m := by omega
            subst this
            have HDE : Hd (Lib.decFrom 0 E = some n) := ⟨by have := HDF.out; rwa [← HEL.out, List.take_length] at this⟩
            have hn6 := (HN6.out n HDE.out).out hm6
            have hwn : IntKind.i64.wrap (-(n : Int)) = -(n : Int) := IntWalk.i64_in _ (by omega)
            obtain ⟨nb, hnb2⟩ : ∃ nb, numB (-(n : Int)) = nb := ⟨_, rfl⟩
            have HNB := Hd.mk hnb2
            by_cases hne : nb = s
            · have HAY : Hd (ans_Int s = ((-(n : Int)), true)) := ⟨ans_Int_yes ⟨by omega, by omega, hnb2.trans hne⟩⟩
              have HNS := Hd.mk hne
              clear hnb2 hne
              go_wp2_with fail
              refine (spec_l1NumA S _ (-(n : Int)) (by omega) (by omega)).mono ?_
              rw [HNB.out, HNS.out]
              rintro e w2 ⟨rfl, HP⟩
              have HS2 := HP.sep
              have HE2 := HP.ext
              clear HP
              go_wp2
              refine bodyPost_ret (v := .tuple #[.int .i64 (-(n : Int)), .bool true]) (by simp [results, Tryd.results50, go_sem]) rfl ?_
              rw [HAY.out]
              exact ⟨rfl, Post.mk' inferInstance inferInstance⟩
            · have HAN := HMS.out n HDE.out (fun e => hne (hnb2.symm.trans e))
              have hnl := ne_list hne
              clear hnb2 hne
              go_wp2_with fail
              refine (spec_l1NumA S _ (-(n : Int)) (by omega) (by omega)).mono ?_
              rw [HNB.out]
              rintro e w2 ⟨rfl, HP⟩
              have HS2 := HP.sep
              have HE2 := HP.ext
              clear HP
              go_wp2
              refine bodyPost_ret (v := .tuple #[.int .i64 0, .bool false]) (by simp [results, Tryd.results50, go_sem]) rfl ?_
              rw [HAN.out]
              exact ⟨rfl, Post.mk' inferInstance inferInstance⟩
    · have hTD : s.data.toList = tailI s.data.toList := (tailI_pos (fun h => h45 (by have := h.2; rw [hc0] at this; exact Option.some.inj this))).symm
      have hb0 : ((c0.toNat : Int) == 45) = false := by
        rw [beq_eq_false_iff_ne]
        intro h
        exact h45 (UInt8.toNat_inj.1 (by show c0.toNat = 45; omega))
      obtain ⟨m, hm⟩ : ∃ m, s.size = m := ⟨_, rfl⟩
      have hms : (s.size : Int) = (m : Int) := by rw [hm]
      obtain ⟨E, hE⟩ : ∃ E, s.data.toList = E := ⟨_, rfl⟩
      have HEL : Hd (E.length = m) := ⟨by rw [← hE, data_len, hm]⟩
      have HB : Hd (∀ (i : Nat) (c : UInt8), E[i]? = some c → ∃ hi : i < s.size, s[i]'hi = c) := ⟨fun i c h => by rw [← hE] at h; exact byte_at h⟩
      have hET : E = tailI s.data.toList := hE.symm.trans hTD
      have HLT : Hd (¬ (tailI s.data.toList).length < s.data.toList.length) := ⟨by rw [← hET, HEL.out, data_len]; omega⟩
      obtain ⟨q, hq⟩ : ∃ q, inB (m : Int) 1 6 = q := ⟨_, rfl⟩
      have HQ := Hd.mk hq
      have HNQ : Hd (q = false → Hd (ans_Int s = (0, false))) := ⟨fun hqf => ⟨ans_Int_no fun k hk => by
        obtain ⟨h1, h2, _⟩ := isNum_tail hk
        rw [← hET, HEL.out] at h1 h2
        have : inB (m : Int) 1 6 = true := by simp [inB]; omega
        rw [hq, hqf] at this; cases this⟩⟩
      have HYQ : Hd (q = true → Hd (m ≤ 6)) := ⟨fun hqt => ⟨by rw [hqt] at hq; have := inB_true hq; omega⟩⟩
      have HND : Hd (∀ (k : Nat) (c : UInt8), E[k]? = some c → ¬ (48 ≤ c.toNat ∧ c.toNat ≤ 57) → Hd (ans_Int s = (0, false))) := ⟨fun k c hc hn => ⟨ans_Int_no fun z hz => by
        obtain ⟨_, _, h3, _⟩ := isNum_tail hz
        rw [← hET] at h3
        obtain ⟨d, hd⟩ := Lib.digit_of_decFrom _ 0 _ h3 k c hc
        exact hn ⟨(Lib.digitVal_eq hd).1, (Lib.digitVal_eq hd).2.1⟩⟩⟩
      have HN6 : Hd (∀ n, Lib.decFrom 0 E = some n → Hd (m ≤ 6 → n ≤ 999999)) := ⟨fun n h => ⟨fun h6 => dec6 h (by rw [HEL.out]; exact h6)⟩⟩
      have HMS : Hd (∀ n : Nat, Lib.decFrom 0 E = some n → ¬ numB (n : Int) = s → Hd (ans_Int s = (0, false))) := ⟨fun n h hn => ⟨ans_Int_no fun z hz => by
        have : z = (n : Int) := read_same (n := n) (by rw [← hET]; exact h) (.inr ⟨HLT.out, rfl⟩) hz
        exact hn (by rw [← this]; exact hz.2.2)⟩⟩
      clear hm hE hET hTD hq
      clear hc0 h45 h1
      go_enter Tryd.func50, Tryd.ntmps50
      go_wp2_with fail
      refine (spec_in (m : Int) _ _ q _ HQ.out).mono ?_
      rintro e wz ⟨rfl, hz⟩
      have hz2 := hz.symm
      subst hz2
      clear hz
      cases q
      · have HZ0 := HNQ.out rfl
        go_wp2
        refine bodyPost_ret (v := .tuple #[.int .i64 0, .bool false]) (by simp [results, Tryd.results50, go_sem]) rfl ?_
        rw [HZ0.out]
        exact ⟨rfl, Post.mk' inferInstance inferInstance⟩
      · have hm6 := (HYQ.out rfl).out
        go_wp2
        go_loopw [5, 6] (fun v5 v6 wr => ∃ k n : Nat, k ≤ m ∧ v6 = .int .i64 k ∧ v5 = .int .i64 n ∧ n < 100000000000000000 ∧ Hd (Lib.decFrom 0 (E.take k) = some n) ∧ wr = w) (fun _ v _ => m - (intOf v).toNat)
        case atStart => exact ⟨0, 0, Nat.zero_le _, rfl, rfl, by omega, ⟨rfl⟩, by first | trivial | rfl⟩
        case round =>
          obtain ⟨k, n, hk, rfl, rfl, hnb, HDF, rfl⟩ := hrel
          by_cases hlt : k < m
          · obtain ⟨c, hc⟩ := get_ex (xs := E) (k := k) (by rw [HEL.out]; exact hlt)
            obtain ⟨hil, hix⟩ := HB.out k c hc
            have HC := Hd.mk hc
            have hcl : c.toNat < 256 := c.toNat_lt
            by_cases h48 : c.toNat < 48
            · have h48i : (c.toNat : Int) < 48 := by omega
              have HZ := HND.out k c hc (fun h => by omega)
              clear hc h48
              go_wp2
              refine bodyPost_ret (v := .tuple #[.int .i64 0, .bool false]) (by simp [results, Tryd.results50, go_sem]) rfl ?_
              rw [HZ.out]
              exact ⟨rfl, Post.mk' inferInstance inferInstance⟩
            · have h48i : ¬ (c.toNat : Int) < 48 := by omega
              by_cases h57 : 57 < c.toNat
              · have h57i : (57 : Int) < (c.toNat : Int) := by omega
                have HZ := HND.out k c hc (fun h => by omega)
                clear hc h48 h57
                go_wp2
                refine bodyPost_ret (v := .tuple #[.int .i64 0, .bool false]) (by simp [results, Tryd.results50, go_sem]) rfl ?_
                rw [HZ.out]
                exact ⟨rfl, Post.mk' inferInstance inferInstance⟩
              · have h57i : ¬ (57 : Int) < (c.toNat : Int) := by omega
                obtain ⟨d, hd⟩ : ∃ d : Nat, c.toNat = 48 + d := ⟨c.toNat - 48, by omega⟩
                have hdl : d ≤ 9 := by omega
                have hw1 : IntKind.u8.wrap ((c.toNat : Int) - 48) = (d : Int) := sub48 c d hd
                have hw2 : IntKind.i64.wrap (d : Int) = (d : Int) := IntWalk.i64_in _ (by omega)
                have hw3 : IntKind.i64.wrap (10 * (n : Int)) = 10 * (n : Int) := IntWalk.i64_in _ (by omega)
                obtain ⟨n2, hn2⟩ : ∃ n2 : Nat, n * 10 + d = n2 := ⟨_, rfl⟩
                have hw4 : IntKind.i64.wrap (10 * (n : Int) + (d : Int)) = (n2 : Int) := by rw [IntWalk.i64_in _ (by omega)]; omega
                have HDN : Hd (Lib.decFrom 0 (E.take (k + 1)) = some n2) := ⟨by
                  have := Lib.decFrom_take E k 0 n c d HDF.out hc (by unfold Lib.digitVal; rw [if_pos (by omega), hd]; congr 1; omega)
                  rw [hn2] at this; exact this⟩
                have hn2b : n2 < 100000000000000000 := Lib.decFrom_take_lt HDN.out (by omega)
                clear hc hd h48 h57 hn2
                go_wp2
                go_roundw
                case rel => exact ⟨k + 1, n2, by omega, by go_num, rfl, hn2b, HDN, by first | trivial | rfl⟩
                case measure => (simp [intOf]; try omega)
          · have : k = m := by omega
            subst this
            have HDE : Hd (Lib.decFrom 0 E = some n) := ⟨by have := HDF.out; rwa [← HEL.out, List.take_length] at this⟩
            have hn6 := (HN6.out n HDE.out).out hm6
            have hwn : IntKind.i64.wrap (-(n : Int)) = -(n : Int) := IntWalk.i64_in _ (by omega)
            obtain ⟨nb, hnb2⟩ : ∃ nb, numB (n : Int) = nb := ⟨_, rfl⟩
            have HNB := Hd.mk hnb2
            by_cases hne : nb = s
            · have HAY : Hd (ans_Int s = ((n : Int), true)) := ⟨ans_Int_yes ⟨by omega, by omega, hnb2.trans hne⟩⟩
              have HNS := Hd.mk hne
              clear hnb2 hne
              go_wp2_with fail
              refine (spec_l1NumA S _ (n : Int) (by omega) (by omega)).mono ?_
              rw [HNB.out, HNS.out]
              rintro e w2 ⟨rfl, HP⟩
              have HS2 := HP.sep
              have HE2 := HP.ext
              clear HP
              go_wp2
              refine bodyPost_ret (v := .tuple #[.int .i64 (n : Int), .bool true]) (by simp [results, Tryd.results50, go_sem]) rfl ?_
              rw [HAY.out]
              exact ⟨rfl, Post.mk' inferInstance inferInstance⟩
            · have HAN := HMS.out n HDE.out (fun e => hne (hnb2.symm.trans e))
              have hnl := ne_list hne
              clear hnb2 hne
              go_wp2_with fail
              refine (spec_l1NumA S _ (n : Int) (by omega) (by omega)).mono ?_
              rw [HNB.out]
              rintro e w2 ⟨rfl, HP⟩
              have HS2 := HP.sep
              have HE2 := HP.ext
              clear HP
              go_wp2
              refine bodyPost_ret (v := .tuple #[.int .i64 0, .bool false]) (by simp [results, Tryd.results50, go_sem]) rfl ?_
              rw [HAN.out]
              exact ⟨rfl, Post.mk' inferInstance inferInstance⟩
  · have h1i : ¬ (1 : Int) < (s.size : Int) := by omega
    have hTD : s.data.toList = tailI s.data.toList := (tailI_pos (fun h => h1 (by have := h.1; rw [data_len] at this; exact this))).symm
    obtain ⟨m, hm⟩ : ∃ m, s.size = m := ⟨_, rfl⟩
    have hms : (s.size : Int) = (m : Int) := by rw [hm]
    obtain ⟨E, hE⟩ : ∃ E, s.data.toList = E := ⟨_, rfl⟩
    have HEL : Hd (E.length = m) := ⟨by rw [← hE, data_len, hm]⟩
    have HB : Hd (∀ (i : Nat) (c : UInt8), E[i]? = some c → ∃ hi : i < s.size, s[i]'hi = c) := ⟨fun i c h => by rw [← hE] at h; exact byte_at h⟩
    have hET : E = tailI s.data.toList := hE.symm.trans hTD
    have HLT : Hd (¬ (tailI s.data.toList).length < s.data.toList.length) := ⟨by rw [← hET, HEL.out, data_len]; omega⟩
    obtain ⟨q, hq⟩ : ∃ q, inB (m : Int) 1 6 = q := ⟨_, rfl⟩
    have HQ := Hd.mk hq
    have HNQ : Hd (q = false → Hd (ans_Int s = (0, false))) := ⟨fun hqf => ⟨ans_Int_no fun k hk => by
      obtain ⟨h1, h2, _⟩ := isNum_tail hk
      rw [← hET, HEL.out] at h1 h2
      have : inB (m : Int) 1 6 = true := by simp [inB]; omega
      rw [hq, hqf] at this; cases this⟩⟩
    have HYQ : Hd (q = true → Hd (m ≤ 6)) := ⟨fun hqt => ⟨by rw [hqt] at hq; have := inB_true hq; omega⟩⟩
    have HND : Hd (∀ (k : Nat) (c : UInt8), E[k]? = some c → ¬ (48 ≤ c.toNat ∧ c.toNat ≤ 57) → Hd (ans_Int s = (0, false))) := ⟨fun k c hc hn => ⟨ans_Int_no fun z hz => by
      obtain ⟨_, _, h3, _⟩ := isNum_tail hz
      rw [← hET] at h3
      obtain ⟨d, hd⟩ := Lib.digit_of_decFrom _ 0 _ h3 k c hc
      exact hn ⟨(Lib.digitVal_eq hd).1, (Lib.digitVal_eq hd).2.1⟩⟩⟩
    have HN6 : Hd (∀ n, Lib.decFrom 0 E = some n → Hd (m ≤ 6 → n ≤ 999999)) := ⟨fun n h => ⟨fun h6 => dec6 h (by rw [HEL.out]; exact h6)⟩⟩
    have HMS : Hd (∀ n : Nat, Lib.decFrom 0 E = some n → ¬ numB (n : Int) = s → Hd (ans_Int s = (0, false))) := ⟨fun n h hn => ⟨ans_Int_no fun z hz => by
      have : z = (n : Int) := read_same (n := n) (by rw [← hET]; exact h) (.inr ⟨HLT.out, rfl⟩) hz
      exact hn (by rw [← this]; exact hz.2.2)⟩⟩
    clear hm hE hET hTD hq
    clear h1
    go_enter Tryd.func50, Tryd.ntmps50
    go_wp2_with fail
    refine (spec_in (m : Int) _ _ q _ HQ.out).mono ?_
    rintro e wz ⟨rfl, hz⟩
    have hz2 := hz.symm
    subst hz2
    clear hz
    cases q
    · have HZ0 := HNQ.out rfl
      go_wp2
      refine bodyPost_ret (v := .tuple #[.int .i64 0, .bool false]) (by simp [results, Tryd.results50, go_sem]) rfl ?_
      rw [HZ0.out]
      exact ⟨rfl, Post.mk' inferInstance inferInstance⟩
    · have hm6 := (HYQ.out rfl).out
      go_wp2
      go_loopw [5, 6] (fun v5 v6 wr => ∃ k n : Nat, k ≤ m ∧ v6 = .int .i64 k ∧ v5 = .int .i64 n ∧ n < 100000000000000000 ∧ Hd (Lib.decFrom 0 (E.take k) = some n) ∧ wr = w) (fun _ v _ => m - (intOf v).toNat)
      case atStart => exact ⟨0, 0, Nat.zero_le _, rfl, rfl, by omega, ⟨rfl⟩, by first | trivial | rfl⟩
      case round =>
        obtain ⟨k, n, hk, rfl, rfl, hnb, HDF, rfl⟩ := hrel
        by_cases hlt : k < m
        · obtain ⟨c, hc⟩ := get_ex (xs := E) (k := k) (by rw [HEL.out]; exact hlt)
          obtain ⟨hil, hix⟩ := HB.out k c hc
          have HC := Hd.mk hc
          have hcl : c.toNat < 256 := c.toNat_lt
          by_cases h48 : c.toNat < 48
          · have h48i : (c.toNat : Int) < 48 := by omega
            have HZ := HND.out k c hc (fun h => by omega)
            clear hc h48
            go_wp2
            refine bodyPost_ret (v := .tuple #[.int .i64 0, .bool false]) (by simp [results, Tryd.results50, go_sem]) rfl ?_
            rw [HZ.out]
            exact ⟨rfl, Post.mk' inferInstance inferInstance⟩
          · have h48i : ¬ (c.toNat : Int) < 48 := by omega
            by_cases h57 : 57 < c.toNat
            · have h57i : (57 : Int) < (c.toNat : Int) := by omega
              have HZ := HND.out k c hc (fun h => by omega)
              clear hc h48 h57
              go_wp2
              refine bodyPost_ret (v := .tuple #[.int .i64 0, .bool false]) (by simp [results, Tryd.results50, go_sem]) rfl ?_
              rw [HZ.out]
              exact ⟨rfl, Post.mk' inferInstance inferInstance⟩
            · have h57i : ¬ (57 : Int) < (c.toNat : Int) := by omega
              obtain ⟨d, hd⟩ : ∃ d : Nat, c.toNat = 48 + d := ⟨c.toNat - 48, by omega⟩
              have hdl : d ≤ 9 := by omega
              have hw1 : IntKind.u8.wrap ((c.toNat : Int) - 48) = (d : Int) := sub48 c d hd
              have hw2 : IntKind.i64.wrap (d : Int) = (d : Int) := IntWalk.i64_in _ (by omega)
              have hw3 : IntKind.i64.wrap (10 * (n : Int)) = 10 * (n : Int) := IntWalk.i64_in _ (by omega)
              obtain ⟨n2, hn2⟩ : ∃ n2 : Nat, n * 10 + d = n2 := ⟨_, rfl⟩
              have hw4 : IntKind.i64.wrap (10 * (n : Int) + (d : Int)) = (n2 : Int) := by rw [IntWalk.i64_in _ (by omega)]; omega
              have HDN : Hd (Lib.decFrom 0 (E.take (k + 1)) = some n2) := ⟨by
                have := Lib.decFrom_take E k 0 n c d HDF.out hc (by unfold Lib.digitVal; rw [if_pos (by omega), hd]; congr 1; omega)
                rw [hn2] at this; exact this⟩
              have hn2b : n2 < 100000000000000000 := Lib.decFrom_take_lt HDN.out (by omega)
              clear hc hd h48 h57 hn2
              go_wp2
              go_roundw
              case rel => exact ⟨k + 1, n2, by omega, by go_num, rfl, hn2b, HDN, by first | trivial | rfl⟩
              case measure => (simp [intOf]; try omega)
        · have : k = m := by omega
          subst this
          have HDE : Hd (Lib.decFrom 0 E = some n) := ⟨by have := HDF.out; rwa [← HEL.out, List.take_length] at this⟩
          have hn6 := (HN6.out n HDE.out).out hm6
          have hwn : IntKind.i64.wrap (-(n : Int)) = -(n : Int) := IntWalk.i64_in _ (by omega)
          obtain ⟨nb, hnb2⟩ : ∃ nb, numB (n : Int) = nb := ⟨_, rfl⟩
          have HNB := Hd.mk hnb2
          by_cases hne : nb = s
          · have HAY : Hd (ans_Int s = ((n : Int), true)) := ⟨ans_Int_yes ⟨by omega, by omega, hnb2.trans hne⟩⟩
            have HNS := Hd.mk hne
            clear hnb2 hne
            go_wp2_with fail
            refine (spec_l1NumA S _ (n : Int) (by omega) (by omega)).mono ?_
            rw [HNB.out, HNS.out]
            rintro e w2 ⟨rfl, HP⟩
            have HS2 := HP.sep
            have HE2 := HP.ext
            clear HP
            go_wp2
            refine bodyPost_ret (v := .tuple #[.int .i64 (n : Int), .bool true]) (by simp [results, Tryd.results50, go_sem]) rfl ?_
            rw [HAY.out]
            exact ⟨rfl, Post.mk' inferInstance inferInstance⟩
          · have HAN := HMS.out n HDE.out (fun e => hne (hnb2.symm.trans e))
            have hnl := ne_list hne
            clear hnb2 hne
            go_wp2_with fail
            refine (spec_l1NumA S _ (n : Int) (by omega) (by omega)).mono ?_
            rw [HNB.out]
            rintro e w2 ⟨rfl, HP⟩
            have HS2 := HP.sep
            have HE2 := HP.ext
            clear HP
            go_wp2
            refine bodyPost_ret (v := .tuple #[.int .i64 0, .bool false]) (by simp [results, Tryd.results50, go_sem]) rfl ?_
            rw [HAN.out]
            exact ⟨rfl, Post.mk' inferInstance inferInstance⟩
set_option maxRecDepth 100000 in
set_option maxHeartbeats 4000000 in
theorem spec_ParseInt (S : HP) (w : World) [H : SepI w S] (s : ByteArray) (hs : s.size ≤ 1048576) :
    Calls Tryd.prog 22 #[.string s] w (IntOk S (ans_Int s) w) := by
  obtain ⟨a, ha⟩ : ∃ a, ans_Int s = a := ⟨_, rfl⟩
  have HA := Hd.mk ha
  rw [ha]
  clear ha
  go_enter Tryd.func22, Tryd.ntmps22
  go_wp2_with fail
  refine (spec_l1Read _ _ s hs).mono ?_
  rw [HA.out]
  obtain ⟨av, ao⟩ := a
  rintro e w1 ⟨rfl, HP⟩
  have HS1 := HP.sep
  have HE1 := HP.ext
  clear HP
  go_wp2
  refine bodyPost_ret (v := .tuple #[.int .i64 av, .bool ao]) (by simp [results, Tryd.results22, go_sem]) rfl ?_
  exact ⟨rfl, Post.mk' inferInstance inferInstance⟩
set_option maxRecDepth 100000 in
set_option maxHeartbeats 4000000 in
theorem law_ParseInt (S : HP) (w : World) [H : SepI w S] [t : TabI S] [x : ErrI S] (s : ByteArray) (hs0 : s.size ≤ 140737488351232) :
    Calls Tryd.prog 7 #[.string s] w fun e w' => e = .returned (.bool true) ∧ Post w S w' := by
  by_cases hb : s.size ≤ 1048576
  · have hbi : ¬ (1048576 : Int) < (s.size : Int) := by omega
    obtain ⟨a, ha⟩ : ∃ a, ans_Int s = a := ⟨_, rfl⟩
    have HA := Hd.mk ha
    clear ha
    go_enter Tryd.func7, Tryd.ntmps7
    go_wp2_with fail
    refine (spec_ParseInt _ _ s hb).mono ?_
    rw [HA.out]
    rintro e w1 ⟨rfl, HP⟩
    have HS1 := HP.sep
    have HE1 := HP.ext
    clear HP
    go_wp2_with fail
    refine (impl_ParseInt _ _ s hb).mono ?_
    rw [HA.out]
    obtain ⟨av, ao⟩ := a
    rintro e w2 ⟨rfl, HP⟩
    have HS2 := HP.sep
    have HE2 := HP.ext
    clear HP
    go_wp2
    go_ret
    exact ⟨rfl, Post.mk' inferInstance inferInstance⟩
  · have hbi : (1048576 : Int) < (s.size : Int) := by omega
    clear hb
    go_enter Tryd.func7, Tryd.ntmps7
    go_wp2
    go_ret
    exact ⟨rfl, Post.mk' inferInstance inferInstance⟩
end Go.Proofs.YtnioipbofopocaaDoor
