/- VerifyChecksum by the program and by the reference. Conditions: lengths within bounds. -/
import Derived.Test.YtnioipbofopocaaDoorTs
import Derived.Test.YtnioipbofopocaaDoorTc
import Derived.Lib.IndexLaws
import Derived.Lib.PathFns
namespace Go.Proofs.YtnioipbofopocaaDoor
open Go.RowKit SL
attribute [local go_sem] cell_blk frozen_blk lt_blk cell_at frozen_row lt_row
set_option linter.unusedVariables false
set_option linter.unusedSimpArgs false

theorem spl_key (b : UInt8) : ∀ (l : List UInt8) (acc : List (List UInt8)) (cur : List UInt8), ∃ t, (l.foldl (splS b) (acc, cur)).1 ++ [(l.foldl (splS b) (acc, cur)).2] = (match acc with | [] => cur ++ l.takeWhile (· != b) | a :: _ => a) :: t
  | [], [], cur => ⟨[], by simp⟩
  | [], a :: r, cur => ⟨r ++ [cur], rfl⟩
  | c :: l, acc, cur => by
    rw [List.foldl_cons]
    unfold splS
    by_cases h : c = b
    · subst h
      rw [if_pos rfl]
      obtain ⟨t, ht⟩ := spl_key c l (acc ++ [cur]) []
      refine ⟨t, ?_⟩
      cases acc with
      | nil => exact ht.trans (by simp)
      | cons a r => exact ht
    · rw [if_neg h]
      obtain ⟨t, ht⟩ := spl_key b l acc (cur ++ [c])
      refine ⟨t, ?_⟩
      cases acc with
      | nil => exact ht.trans (by simp [List.takeWhile_cons, h])
      | cons a r => exact ht
/-- A text up to the first of a byte. -/
def headT (s : ByteArray) : ByteArray := mkT (s.data.toList.takeWhile (· != 35))
theorem splT_head (s : ByteArray) : ∃ t, splT s 35 = headT s :: t := by
  obtain ⟨t, ht⟩ := spl_key 35 s.data.toList [] []
  exact ⟨t.map mkT, by unfold splT splitL splF; rw [ht]; rfl⟩
theorem take_at {c : UInt8} : ∀ {l : List UInt8} {o : Nat}, l[o]? = some c → (∀ k : Nat, k < o → l[k]? ≠ some c) → l.takeWhile (· != c) = l.take o ∧ o ≤ l.length
  | [], _, h, _ => by simp at h
  | b :: l, 0, h, _ => by simp at h; subst h; simp
  | b :: l, o + 1, h, h2 => by
    have hb : b ≠ c := fun e => h2 0 (by omega) (by simp [e])
    obtain ⟨h3, h4⟩ := take_at (l := l) (o := o) (by simpa using h) (fun k hk => by have := h2 (k + 1) (by omega); simpa using this)
    exact ⟨by simp [List.takeWhile_cons, hb, h3], by simp; omega⟩
theorem take_none {c : UInt8} : ∀ {l : List UInt8}, (∀ k : Nat, l[k]? ≠ some c) → l.takeWhile (· != c) = l
  | [], _ => rfl
  | b :: l, h => by
    have hb : b ≠ c := fun e => h 0 (by simp [e])
    rw [List.takeWhile_cons, if_pos (by simp [hb]), take_none fun k => by have := h (k + 1); simpa using this]
theorem headT_size (s : ByteArray) : (headT s).size ≤ s.size := by
  unfold headT; rw [mkT_size, ← data_len]; exact (List.takeWhile_sublist _).length_le
theorem take_pure (c : UInt8) : ∀ l : List UInt8, (l.takeWhile (· != c)).contains c = false
  | [] => rfl
  | b :: l => by
    rw [List.takeWhile_cons]
    by_cases h : b = c
    · rw [if_neg (by simp [h])]; rfl
    · rw [if_pos (by simp [h]), List.contains_cons, take_pure c l]
      simp [Ne.symm h]
theorem headT_pure (s : ByteArray) : (headT s).data.toList.contains 35 = false := by
  unfold headT mkT
  simpa using take_pure 35 s.data.toList
theorem headT_some {s : ByteArray} {o : Nat} (h : Lib.indexByte s.data.toList 35 = o) : s.extract 0 o = headT s ∧ o ≤ s.size := by
  obtain ⟨h1, h2⟩ := Lib.indexByte_some h
  obtain ⟨h3, h4⟩ := take_at h1 h2
  refine ⟨?_, by rw [← data_len]; exact h4⟩
  unfold headT
  rw [h3, extract_take s 0 o (Nat.zero_le _), List.drop_zero]
theorem headT_none {s : ByteArray} (h : Lib.indexByte s.data.toList 35 = -1) : headT s = s := by
  unfold headT
  rw [take_none (Lib.indexByte_none h), mkT_data]
theorem ne_list {a b : ByteArray} (h : a ≠ b) : (a.toList == b.toList) = false := beq_eq_false_iff_ne.2 fun e => h (by rw [ByteArray.toList_eq, ByteArray.toList_eq] at e; exact ByteArray.ext (Array.toList_inj.mp e))
def ans_Ver (s : ByteArray) : ByteArray × Bool := if s.size ≤ 4000 ∧ sealB (headT s) = s then (headT s, true) else (ByteArray.mk #[], false)
theorem ans_Ver_yes {s : ByteArray} (h : s.size ≤ 4000) (h2 : sealB (headT s) = s) : ans_Ver s = (headT s, true) := by unfold ans_Ver; rw [if_pos ⟨h, h2⟩]
theorem ans_Ver_no {s : ByteArray} (h : ¬ (s.size ≤ 4000 ∧ sealB (headT s) = s)) : ans_Ver s = (ByteArray.mk #[], false) := by unfold ans_Ver; rw [if_neg h]
set_option maxRecDepth 100000 in
set_option maxHeartbeats 4000000 in
theorem spec_VerifyChecksum (S : HP) (w : World) [H : SepI w S] (s : ByteArray) (hs : s.size ≤ 1048576) :
    Calls Tryd.prog 20 #[.string s] w (StrOk S (ans_Ver s) w) := by
  have hnot : ∀ (x : Bool) (w : World), (Op.unary .not (.bool x)).run Tryd.prog w = .ok (.bool (!x)) w := fun _ _ => rfl
  have hzs := headT_size s
  obtain ⟨t, ht⟩ := splT_head s
  by_cases hb : s.size ≤ 4000
  · have hbi : ¬ (4000 : Int) < (s.size : Int) := by omega
    by_cases hq : sealB (headT s) = s
    · have HOK := Hd.mk (ans_Ver_yes hb hq)
      obtain ⟨hd, hhd⟩ : ∃ hd, headT s = hd := ⟨_, rfl⟩
      rw [hhd] at ht hzs HOK hq
      have HSL := Hd.mk hq
      have HSPL : Hd (∀ w, SepI w S → Calls Tryd.prog 42 #[.string s, .int .u8 35] w (StrsP S (hd :: t) w)) := ⟨fun w H => by
        have h := spec_l1Split S w s 35 hs
        rw [ht] at h
        exact h⟩
      have hln : (0 : Int) < ((hd :: t).length : Int) := by simp
      rw [HOK.out]
      clear hhd hq ht
      go_enter Tryd.func20, Tryd.ntmps20
      go_wp2_with fail
      refine (HSPL.out _ inferInstance).mono ?_
      rintro e w1 ⟨g, c, rfl, hc, HP⟩
      have HS1 := HP.sep
      have HE1 := HP.ext
      clear HP
      have d1 : CellAt _ g 0 _ := Row.cellAt (e := 9) (size := 1) (g := g) (n := (hd :: t).length) (c := c) (F := S) (strs_get (l := hd :: t) (k := 0) rfl)
      go_wp2_with fail
      refine (spec_l1Seal _ _ hd (by omega)).mono ?_
      rw [HSL.out]
      rintro e w2 ⟨rfl, HP⟩
      have HS2 := HP.sep
      have HE2 := HP.ext
      clear HP
      have HS3 := HS2.right
      go_wp2
      refine bodyPost_ret (v := .tuple #[.string hd, .bool true]) (by simp [results, Tryd.results20, go_sem]) rfl ?_
      exact ⟨rfl, Post.mk' HS3 inferInstance⟩
    · have HOK := Hd.mk (ans_Ver_no (s := s) (fun h => hq h.2))
      obtain ⟨hd, hhd⟩ : ∃ hd, headT s = hd := ⟨_, rfl⟩
      rw [hhd] at ht hzs hq
      obtain ⟨z, hz⟩ : ∃ z, sealB hd = z := ⟨_, rfl⟩
      have HSL := Hd.mk hz
      rw [hz] at hq
      have hne := ne_list hq
      have HSPL : Hd (∀ w, SepI w S → Calls Tryd.prog 42 #[.string s, .int .u8 35] w (StrsP S (hd :: t) w)) := ⟨fun w H => by
        have h := spec_l1Split S w s 35 hs
        rw [ht] at h
        exact h⟩
      have hln : (0 : Int) < ((hd :: t).length : Int) := by simp
      rw [HOK.out]
      clear hhd hq ht hz
      go_enter Tryd.func20, Tryd.ntmps20
      go_wp2_with fail
      refine (HSPL.out _ inferInstance).mono ?_
      rintro e w1 ⟨g, c, rfl, hc, HP⟩
      have HS1 := HP.sep
      have HE1 := HP.ext
      clear HP
      have d1 : CellAt _ g 0 _ := Row.cellAt (e := 9) (size := 1) (g := g) (n := (hd :: t).length) (c := c) (F := S) (strs_get (l := hd :: t) (k := 0) rfl)
      go_wp2_with fail
      refine (spec_l1Seal _ _ hd (by omega)).mono ?_
      rw [HSL.out]
      rintro e w2 ⟨rfl, HP⟩
      have HS2 := HP.sep
      have HE2 := HP.ext
      clear HP
      have HS3 := HS2.right
      go_wp2
      refine bodyPost_ret (v := .tuple #[.string ⟨#[]⟩, .bool false]) (by simp [results, Tryd.results20, go_sem]) rfl ?_
      exact ⟨rfl, Post.mk' HS3 inferInstance⟩
  · have HOK := Hd.mk (ans_Ver_no (s := s) (fun h => hb h.1))
    have hbi : (4000 : Int) < (s.size : Int) := by omega
    rw [HOK.out]
    clear ht
    go_enter Tryd.func20, Tryd.ntmps20
    go_wp2
    refine bodyPost_ret (v := .tuple #[.string ⟨#[]⟩, .bool false]) (by simp [results, Tryd.results20, go_sem]) rfl ?_
    exact ⟨rfl, Post.mk' inferInstance inferInstance⟩
set_option maxRecDepth 100000 in
set_option maxHeartbeats 4000000 in
theorem impl_VerifyChecksum (S : HP) (w : World) [H : SepI w S] [t : TabI S] (s : ByteArray) (hs : s.size ≤ 1048576) :
    Calls Tryd.prog 21 #[.string s] w (StrOk S (ans_Ver s) w) := by
  have hnot : ∀ (x : Bool) (w : World), (Op.unary .not (.bool x)).run Tryd.prog w = .ok (.bool (!x)) w := fun _ _ => rfl
  obtain ⟨i, hi⟩ : ∃ i, Lib.indexByte s.data.toList 35 = i := ⟨_, rfl⟩
  have HIX : Hd (∀ w, Calls Tryd.prog 49 #[.string s, .int .u8 35] w fun e w' => e = .returned (.int .i64 i) ∧ w' = w) := ⟨fun w => by
    have h1 : Calls Tryd.prog 49 #[.string s, .int .u8 35] w fun e w' => e = .returned (.int .i64 (Lib.indexByte s.data.toList 35)) ∧ w' = w := Tryd.strings_IndexByte s 35 w
    rw [hi] at h1
    exact h1⟩
  have hge := Lib.indexByte_ge s.data.toList 35
  rw [hi] at hge
  by_cases hneg : i < 0
  · have HOK : Hd (ans_Ver s = (ByteArray.mk #[], false)) := ⟨ans_Ver_no (fun h => by
      have h2 := h.2
      rw [headT_none (show Lib.indexByte s.data.toList 35 = -1 by omega)] at h2
      have h3 := (sealB_size s).1
      rw [h2] at h3
      omega)⟩
    rw [HOK.out]
    clear hi hge
    go_enter Tryd.func21, Tryd.ntmps21
    go_wp2_with fail
    refine (HIX.out _).mono ?_
    rintro e wz ⟨rfl, hz⟩
    have hz2 := hz.symm
    subst hz2
    clear hz
    go_wp2
    refine bodyPost_ret (v := .tuple #[.string ⟨#[]⟩, .bool false]) (by simp [results, Tryd.results21, go_sem]) rfl ?_
    exact ⟨rfl, Post.mk' inferInstance inferInstance⟩
  · obtain ⟨k, rfl⟩ : ∃ k : Nat, i = k := ⟨i.toNat, by omega⟩
    obtain ⟨hx, hk⟩ := headT_some hi
    have hki : (k : Int) ≤ (s.size : Int) := by omega
    have hzs := headT_size s
    by_cases hb : s.size ≤ 4000
    · have hbi : ¬ (4000 : Int) < (s.size : Int) := by omega
      by_cases hq : sealB (headT s) = s
      · have HOK := Hd.mk (ans_Ver_yes hb hq)
        have HAP : Hd (ans_App (headT s) = (s, true)) := ⟨by rw [ans_App_yes (by unfold appOk; rw [headT_pure, hq, decide_eq_true hb, decide_eq_true (show (headT s).size ≤ 4000 by omega)]; rfl), hq]⟩
        obtain ⟨hd, hhd⟩ : ∃ hd, headT s = hd := ⟨_, rfl⟩
        rw [hhd] at hx hzs HOK HAP
        rw [HOK.out]
        clear hi hge hq hhd
        go_enter Tryd.func21, Tryd.ntmps21
        go_wp2_with fail
        refine (HIX.out _).mono ?_
        rintro e wz ⟨rfl, hz⟩
        have hz2 := hz.symm
        subst hz2
        clear hz
        go_wp2_with fail
        refine (impl_AppendChecksum _ _ hd (by omega)).mono ?_
        rw [HAP.out]
        rintro e w2 ⟨rfl, HP⟩
        have HS2 := HP.sep
        have HE2 := HP.ext
        clear HP
        go_wp2
        refine bodyPost_ret (v := .tuple #[.string hd, .bool true]) (by simp [results, Tryd.results21, go_sem]) rfl ?_
        exact ⟨rfl, Post.mk' inferInstance inferInstance⟩
      · have HOK := Hd.mk (ans_Ver_no (s := s) (fun h => hq h.2))
        by_cases hzz : (sealB (headT s)).size ≤ 4000
        · have HAP : Hd (ans_App (headT s) = (sealB (headT s), true)) := ⟨ans_App_yes (by unfold appOk; rw [headT_pure, decide_eq_true hzz, decide_eq_true (show (headT s).size ≤ 4000 by omega)]; rfl)⟩
          obtain ⟨hd, hhd⟩ : ∃ hd, headT s = hd := ⟨_, rfl⟩
          rw [hhd] at hx hzs hq HAP
          obtain ⟨z, hz⟩ : ∃ z, sealB hd = z := ⟨_, rfl⟩
          rw [hz] at hq HAP
          have hne := ne_list hq
          rw [HOK.out]
          clear hi hge hq hhd hz hzz
          go_enter Tryd.func21, Tryd.ntmps21
          go_wp2_with fail
          refine (HIX.out _).mono ?_
          rintro e wz ⟨rfl, hz⟩
          have hz2 := hz.symm
          subst hz2
          clear hz
          go_wp2_with fail
          refine (impl_AppendChecksum _ _ hd (by omega)).mono ?_
          rw [HAP.out]
          rintro e w2 ⟨rfl, HP⟩
          have HS2 := HP.sep
          have HE2 := HP.ext
          clear HP
          go_wp2
          refine bodyPost_ret (v := .tuple #[.string ⟨#[]⟩, .bool false]) (by simp [results, Tryd.results21, go_sem]) rfl ?_
          exact ⟨rfl, Post.mk' inferInstance inferInstance⟩
        · have HAP : Hd (ans_App (headT s) = (ByteArray.mk #[], false)) := ⟨ans_App_no (by unfold appOk; rw [decide_eq_false hzz, Bool.and_false, Bool.and_false])⟩
          obtain ⟨hd, hhd⟩ : ∃ hd, headT s = hd := ⟨_, rfl⟩
          rw [hhd] at hx hzs HAP
          rw [HOK.out]
          clear hi hge hq hhd hzz
          go_enter Tryd.func21, Tryd.ntmps21
          go_wp2_with fail
          refine (HIX.out _).mono ?_
          rintro e wz ⟨rfl, hz⟩
          have hz2 := hz.symm
          subst hz2
          clear hz
          go_wp2_with fail
          refine (impl_AppendChecksum _ _ hd (by omega)).mono ?_
          rw [HAP.out]
          rintro e w2 ⟨rfl, HP⟩
          have HS2 := HP.sep
          have HE2 := HP.ext
          clear HP
          go_wp2
          refine bodyPost_ret (v := .tuple #[.string ⟨#[]⟩, .bool false]) (by simp [results, Tryd.results21, go_sem]) rfl ?_
          exact ⟨rfl, Post.mk' inferInstance inferInstance⟩
    · have HOK := Hd.mk (ans_Ver_no (s := s) (fun h => hb h.1))
      have hbi : (4000 : Int) < (s.size : Int) := by omega
      rw [HOK.out]
      clear hi hge hx
      go_enter Tryd.func21, Tryd.ntmps21
      go_wp2_with fail
      refine (HIX.out _).mono ?_
      rintro e wz ⟨rfl, hz⟩
      have hz2 := hz.symm
      subst hz2
      clear hz
      go_wp2
      refine bodyPost_ret (v := .tuple #[.string ⟨#[]⟩, .bool false]) (by simp [results, Tryd.results21, go_sem]) rfl ?_
      exact ⟨rfl, Post.mk' inferInstance inferInstance⟩
set_option maxRecDepth 100000 in
set_option maxHeartbeats 4000000 in
theorem law_VerifyChecksum (S : HP) (w : World) [H : SepI w S] [t : TabI S] (s : ByteArray) (hs0 : s.size ≤ 140737488351232) :
    Calls Tryd.prog 6 #[.string s] w fun e w' => e = .returned (.bool true) ∧ Post w S w' := by
  by_cases hb : s.size ≤ 1048576
  · obtain ⟨ans, hans⟩ : ∃ ans, ans_Ver s = ans := ⟨_, rfl⟩
    have HANS := Hd.mk hans
    have hbi : ¬ (1048576 : Int) < (s.size : Int) := by omega
    clear hans
    go_enter Tryd.func6, Tryd.ntmps6
    go_wp2_with fail
    refine (spec_VerifyChecksum _ _ s hb).mono ?_
    rw [HANS.out]
    rintro e w1 ⟨rfl, HP⟩
    have HS1 := HP.sep
    have HE1 := HP.ext
    clear HP
    go_wp2_with fail
    refine (impl_VerifyChecksum _ _ s hb).mono ?_
    rw [HANS.out]
    obtain ⟨av, ao⟩ := ans
    rintro e w2 ⟨rfl, HP⟩
    have HS2 := HP.sep
    have HE2 := HP.ext
    clear HP
    go_wp2
    go_ret
    exact ⟨rfl, Post.mk' inferInstance inferInstance⟩
  · have hbi : (1048576 : Int) < (s.size : Int) := by omega
    clear hb
    go_enter Tryd.func6, Tryd.ntmps6
    go_wp2
    go_ret
    exact ⟨rfl, Post.mk' inferInstance inferInstance⟩
end Go.Proofs.YtnioipbofopocaaDoor
