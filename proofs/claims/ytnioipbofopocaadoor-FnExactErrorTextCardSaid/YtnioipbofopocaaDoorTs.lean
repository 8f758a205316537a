/- Texts parted at a byte, by the reference. Conditions: lengths within bounds. -/
import Derived.Test.YtnioipbofopocaaDoorSb
import Derived.Test.YtnioipbofopocaaDoorTa
import Derived.WalkSpells
import Derived.Laws.DeepStrings4
namespace Go.Proofs.YtnioipbofopocaaDoor
open Go.RowKit SL
attribute [local go_sem] cell_blk frozen_blk lt_blk cell_at frozen_row lt_row
set_option linter.unusedVariables false
set_option linter.unusedSimpArgs false

theorem Row.nil0 {w : World} {g : Nat} {e : TypeId} {size : Nat} {F : HP} (H : SepI w (pts g (.cells #[] e (0, 0)) * F)) : SepI w (Row e size (.slice (some ⟨g, 0, none⟩) 0 0) 0 [] * F) := by
  have := Row.close (size := size) (n := 0) (cap := 0) H (Nat.le_refl _) (Nat.zero_le _) (by simp)
  simpa using this
theorem Row.asS {w : World} {e : TypeId} {size n n' : Nat} {v : Value} {cs cs' : List Value} {F : HP} (H : SepI w (Row e size v n cs * F)) (hn : n = n') (hc : cs = cs') : SepI w (Row e size v n' cs' * F) := by subst hn hc; exact H
def splS (b : UInt8) (st : List (List UInt8) × List UInt8) (c : UInt8) : List (List UInt8) × List UInt8 := if c = b then (st.1 ++ [st.2], []) else (st.1, st.2 ++ [c])
def splF (b : UInt8) (l : List UInt8) : List (List UInt8) × List UInt8 := l.foldl (splS b) ([], [])
/-- The parts of a text between bytes. -/
def splitL (b : UInt8) (l : List UInt8) : List (List UInt8) := (splF b l).1 ++ [(splF b l).2]
def splT (s : ByteArray) (b : UInt8) : List ByteArray := (splitL b s.data.toList).map mkT
theorem splF_next {b : UInt8} {l : List UInt8} {i : Nat} {c : UInt8} (h : l[i]? = some c) : splF b (l.take (i + 1)) = splS b (splF b (l.take i)) c := by unfold splF; rw [take_succ_eq h, List.foldl_append]; rfl
theorem splF_len (b : UInt8) (l : List UInt8) : ∀ i, (splF b (l.take i)).1.length ≤ i
  | 0 => by rw [List.take_zero]; exact Nat.le_refl _
  | i + 1 => by
    have ih := splF_len b l i
    by_cases hi : i < l.length
    · obtain ⟨c, hc⟩ := get_ex hi
      rw [splF_next hc]
      unfold splS
      split
      · simp; omega
      · simp; omega
    · rw [List.take_of_length_le (by omega)] at ih ⊢; omega
theorem extract_take (s : ByteArray) (a i : Nat) (h : a ≤ i) : s.extract a i = mkT ((s.data.toList.take i).drop a) := by
  apply ByteArray.ext
  apply Array.ext'
  simp [mkT, ByteArray.data_extract, Array.toList_extract, List.drop_take]
theorem drop_take_snoc {l : List UInt8} {i a : Nat} {c : UInt8} (h : l[i]? = some c) (ha : a ≤ i) : (l.take (i + 1)).drop a = (l.take i).drop a ++ [c] := by
  have hl := (List.getElem?_eq_some_iff.1 h).1
  rw [take_succ_eq h, List.drop_append_of_le_length (by rw [List.length_take]; omega)]
def StrsP (S : HP) (l : List ByteArray) (w : World) (e : Ending) (w' : World) : Prop := ∃ g c, e = .returned (.slice (some ⟨g, 0, none⟩) l.length c) ∧ l.length ≤ c ∧ Post w (Row 9 1 (.slice (some ⟨g, 0, none⟩) l.length c) l.length (strs l) * S) w'
set_option maxRecDepth 100000 in
set_option maxHeartbeats 4000000 in
theorem spec_l1Split (S : HP) (w : World) [H : SepI w S] (s : ByteArray) (b : UInt8) (hs : s.size ≤ 1048576) :
    Calls Tryd.prog 42 #[.string s, .int .u8 b.toNat] w (StrsP S (splT s b) w) := by
  obtain ⟨m, hm⟩ : ∃ m, s.size = m := ⟨_, rfl⟩
  have HM := Hd.mk hm
  have hm2 : m ≤ 1048576 := by omega
  obtain ⟨D, hD⟩ : ∃ D, s.data.toList = D := ⟨_, rfl⟩
  have HDL : Hd (D.length = m) := ⟨by rw [← hD, data_len, hm]⟩
  have HB : Hd (∀ (i : Nat) (c : UInt8), D[i]? = some c → ∃ hi : i < s.size, s[i]'hi = c) := ⟨fun i c h => by rw [← hD] at h; exact byte_at h⟩
  have HX : Hd (∀ a i, a ≤ i → s.extract a i = mkT ((D.take i).drop a)) := ⟨fun a i h => by rw [← hD]; exact extract_take s a i h⟩
  obtain ⟨P, hP⟩ : ∃ P : Nat → List ByteArray, P = fun i => (splF b (D.take i)).1.map mkT := ⟨_, rfl⟩
  obtain ⟨C, hC⟩ : ∃ C : Nat → List UInt8, C = fun i => (splF b (D.take i)).2 := ⟨_, rfl⟩
  have HP0 : Hd (P 0 = []) := ⟨by rw [hP]; rfl⟩
  have HC0 : Hd (C 0 = []) := ⟨by rw [hC]; rfl⟩
  have HPL : Hd (∀ i, (P i).length ≤ i) := ⟨fun i => by rw [hP]; simp only [List.length_map]; exact splF_len b D i⟩
  have HYY : Hd (∀ i : Nat, D[i]? = some b → P (i + 1) = P i ++ [mkT (C i)] ∧ C (i + 1) = []) := ⟨fun i h => by
    rw [hP, hC]; simp only
    rw [splF_next h]; unfold splS; rw [if_pos rfl]
    exact ⟨by rw [List.map_append]; rfl, rfl⟩⟩
  have HYN : Hd (∀ (i : Nat) (c : UInt8), D[i]? = some c → c ≠ b → P (i + 1) = P i ∧ C (i + 1) = C i ++ [c]) := ⟨fun i c h hn => by
    rw [hP, hC]; simp only
    rw [splF_next h]; unfold splS; rw [if_neg hn]
    exact ⟨rfl, rfl⟩⟩
  have HEND : Hd (splT s b = P m ++ [mkT (C m)]) := ⟨by
    unfold splT splitL
    rw [hP, hC, hD]; simp only
    rw [List.take_of_length_le (by rw [HDL.out]; exact Nat.le_refl _), List.map_append]; rfl⟩
  rw [HEND.out]
  clear hD hP hC hs
  go_enter Tryd.func42, Tryd.ntmps42
  go_wp2
  go_loopw [5, 6, 7] (fun v5 v6 v7 wr => ∃ (i fr : Nat) (vv : Value), i ≤ m ∧ v7 = .int .i64 i ∧ v6 = .int .i64 fr ∧ v5 = vv ∧ fr ≤ i ∧ Hd (C i = (D.take i).drop fr) ∧ ExtI w wr ∧ SepI wr (Row 9 1 vv (P i).length (strs (P i)) * S)) (fun _ _ v _ => m - (intOf v).toNat)
  case atStart => exact ⟨0, 0, .slice (some ⟨w.heap.size, 0, none⟩) 0 0, Nat.zero_le _, rfl, rfl, rfl, Nat.le_refl _, ⟨by rw [HC0.out]; rfl⟩, inferInstance, by rw [HP0.out]; exact Row.nil0 inferInstance⟩
  case round =>
    obtain ⟨i, fr, vv, hi, rfl, rfl, rfl, hfr, HC, HX1, HS3⟩ := hrel
    obtain ⟨A0, c0, rfl, hc0, hc1⟩ := Row.form HS3
    have hpl := HPL.out i
    have hxi := HX.out fr i hfr
    rw [← HC.out] at hxi
    by_cases hlt : i < m
    · obtain ⟨c, hc⟩ := get_ex (xs := D) (k := i) (by rw [HDL.out]; exact hlt)
      obtain ⟨hil, hix⟩ := HB.out i c hc
      have hub := u8_beq c b
      have HDC := Hd.mk hc
      by_cases hcb : c = b
      · subst hcb
        obtain ⟨h1, h2⟩ := HYY.out i hc
        have hub2 : ((c.toNat : Int) == (c.toNat : Int)) = true := by simp
        have HOO : Hd (strs (P i) ++ #[.string (mkT (C i))].toList = strs (P (i + 1))) := ⟨by rw [h1, strs_append]; rfl⟩
        have HLL : Hd ((P i).length + 1 = (P (i + 1)).length) := ⟨by rw [h1]; simp⟩
        have HC2 := Hd.mk h2
        obtain ⟨ct, hct⟩ : ∃ ct, mkT (C i) = ct := ⟨_, rfl⟩
        rw [hct] at HOO hxi
        clear hc h1 h2 hub hct
        go_wp2_with (at_builtin; go_must (refine ev_append (v := .slice A0 (P i).length c0) rfl _ _ 25 rfl rfl 16 _ Tryd.underlying25 info_string rfl (by decide) (by decide) (wr.heap.size) 1 1 rfl rfl (by simp [Value.oneCell']) (by omega) ?_); intro v1 w4 HS4 HE4; replace HS4 := Row.asS HS4 HLL.out HOO.out)
        go_roundw
        case rel => exact ⟨i + 1, i + 1, v1, by omega, by go_num, by go_num, rfl, Nat.le_refl _, ⟨by rw [HC2.out, List.drop_of_length_le (by rw [List.length_take]; omega)]⟩, inferInstance, Ent.sep (S := _) inferInstance HS4⟩
        case measure => (simp [intOf]; try omega)
      · obtain ⟨h1, h2⟩ := HYN.out i c hc hcb
        have hub2 : ((c.toNat : Int) == (b.toNat : Int)) = false := by rw [hub]; exact beq_eq_false_iff_ne.2 hcb
        have HP2 := Hd.mk h1
        have HC2 := Hd.mk h2
        clear hc h1 h2 hub hcb hxi
        go_wp2
        go_roundw
        case rel => exact ⟨i + 1, fr, _, by omega, by go_num, rfl, rfl, by omega, ⟨by rw [HC2.out, drop_take_snoc HDC.out hfr, HC.out]⟩, inferInstance, by rw [HP2.out]; exact HS3⟩
        case measure => (simp [intOf]; try omega)
    · have : i = m := by omega
      subst this
      have HOO : Hd (strs (P i) ++ #[.string (mkT (C i))].toList = strs (P i ++ [mkT (C i)])) := ⟨by rw [strs_append]; rfl⟩
      have HLL : Hd ((P i).length + 1 = (P i ++ [mkT (C i)]).length) := ⟨by simp⟩
      obtain ⟨ct, hct⟩ : ∃ ct, mkT (C i) = ct := ⟨_, rfl⟩
      have HCT := Hd.mk hct
      rw [hct] at HOO HLL hxi
      have hfs : (fr : Int) ≤ (s.size : Int) := by have := HM.out; omega
      clear hct
      go_wp2_with (at_builtin; go_must (refine ev_append (v := .slice A0 (P i).length c0) rfl _ _ 25 rfl rfl 16 _ Tryd.underlying25 info_string rfl (by decide) (by decide) (wr.heap.size) 1 1 rfl rfl (by simp [Value.oneCell']) (by omega) ?_); intro v1 w4 HS4 HE4; replace HS4 := Row.asS HS4 HLL.out HOO.out)
      obtain ⟨A9, c9, rfl, h9, _⟩ := Row.form HS4
      obtain ⟨g9, rfl⟩ := Row.addr HS4 (by simp)
      go_ret
      exact ⟨g9, c9, by rw [HCT.out]; rfl, by rw [HCT.out]; exact h9, by rw [HCT.out]; exact Post.mk' (Ent.sep (S := _) inferInstance HS4) inferInstance⟩
end Go.Proofs.YtnioipbofopocaaDoor
