/- Programs: the functions that a body calls or defers, by the program. Conditions: lengths within bounds. -/
import Derived.Test.YtnmbmdigiaokjaaFc
import Derived.Test.YtnmbmdigiaokjaaSo
namespace Go.Proofs.Ytnmbmdigiaokjaa
open Go.RowKit SL
attribute [local go_sem] cell_blk frozen_blk lt_blk cell_at frozen_row lt_row
set_option linter.unusedVariables false
set_option linter.unusedSimpArgs false

set_option maxRecDepth 100000 in
set_option maxHeartbeats 2000000 in
theorem impl_called (S : HP) (w : World) [H : SepI w S] (A : Option Addr) (c : Nat) (l : List St) [r : Rd S A (cSts l)] (hl : l.length ≤ 8) (K : Option Addr) (kc : Nat) (ks : List Int) [rk : Rd S K (ints ks)] (hk : ks.length ≤ 8) :
    Calls Try.prog 76 #[.slice A l.length c, .slice K ks.length kc] w fun e w' => ∃ v, e = .returned v ∧ Post w (Row 3 1 v (ascA (callN ks.contains l)).length (ints (ascA (callN ks.contains l))) * S) w' := by
  obtain ⟨m, hm⟩ : ∃ m, m = l.length := ⟨_, rfl⟩
  have HM := Hd.mk hm
  obtain ⟨O, hO⟩ : ∃ O : Nat → List Int, O = fun i => callN ks.contains (l.take i) := ⟨_, rfl⟩
  have HO0 : Hd (O 0 = []) := ⟨by rw [hO]; rfl⟩
  have HOM : Hd (O m = callN ks.contains l) := ⟨by rw [hO, hm]; simp only [List.take_length]⟩
  have HOY : Hd (∀ i s, l[i]? = some s → ks.contains s.k = true → O (i + 1) = O i ++ [s.a]) := ⟨fun i s h hk => by rw [hO]; simp only; rw [callN_yes h hk]⟩
  have HON : Hd (∀ i s, l[i]? = some s → ks.contains s.k = false → O (i + 1) = O i) := ⟨fun i s h hk => by rw [hO]; simp only; rw [callN_no h hk]⟩
  have HOL : Hd (∀ i, (O i).length ≤ 8) := ⟨fun i => by
    rw [hO]
    have h2 := callN_len ks.contains (l.take i)
    rw [List.length_take] at h2
    simp only
    omega⟩
  rw [← HOM.out, ← hm]
  rw [← hm] at hl
  clear hm hO
  have hlit : SepI (w.alloc (.cells #[] 3 (0, 0))) (Row 3 1 (.slice (some ⟨w.heap.size, 0, none⟩) 0 0) 0 [] * S) := Row.lit0 (SepI.i_alloc w (.cells #[] 3 (0, 0)) S _)
  go_enter Try.func76, Try.ntmps76
  go_wp2
  go_loopw [5, 11] (fun v5 v6 wr => ∃ (i : Nat) (vv : Value), i ≤ m ∧ v6 = .int .i64 i ∧ v5 = vv ∧ ExtI w wr ∧ SepI wr (Row 3 1 vv (O i).length (ints (O i)) * S)) (fun _ v _ => m - (intOf v).toNat)
  case atStart => exact ⟨0, .slice (some ⟨w.heap.size, 0, none⟩) 0 0, Nat.zero_le _, rfl, rfl, inferInstance, SepI.cast hlit (by rw [HO0.out]; rfl)⟩
  case round =>
    obtain ⟨i, vv, hi, rfl, rfl, HX, HS3⟩ := hrel
    by_cases hlt : i < m
    · obtain ⟨s, hs1⟩ := get_ex (xs := l) (k := i) (by rw [← HM.out]; exact hlt)
      obtain ⟨bp, op, rfl⟩ := r.addr H (j := i) (by rw [cSts_len, ← HM.out]; omega)
      have e1 := r.cell (cSts_get hs1).1
      have e2 := r.cell (cSts_get hs1).2.1
      have e3 := r.cell (cSts_get hs1).2.2
      obtain ⟨A0, c0, rfl, hc0, hc1⟩ := Row.form HS3
      obtain ⟨q, hq⟩ : ∃ q, ks.contains s.k = q := ⟨_, rfl⟩
      have HQ := Hd.mk hq
      have HS1 := Hd.mk hs1
      have hol := HOL.out i
      clear hs1 hq
      go_wp2_with fail
      refine (containsI _ _ _ _ ks (by omega) s.k _ HQ.out).mono ?_
      rintro e w2 ⟨rfl, HP⟩
      have HS2 := HP.sep
      have HE2 := HP.ext
      clear HP
      cases q
      · go_wp2
        go_roundw
        case rel => exact ⟨i + 1, .slice A0 (O i).length c0, by omega, by go_num, rfl, inferInstance, SepI.cast (Ent.sep (S := _) (T := Row 3 1 (.slice A0 (O i).length c0) (O i).length (ints (O i)) * S) inferInstance HS2) (by rw [HON.out i s HS1.out HQ.out])⟩
        case measure => (simp [intOf]; try omega)
      · go_wp2_with (at_builtin; go_must (refine ev_append (v := .slice A0 (O i).length c0) rfl _ _ 34 rfl rfl 8 _ Try.underlying34 info_int rfl (by decide) (by decide) w2.heap.size 1 1 rfl rfl (by simp [Value.oneCell']) (by omega) ?_); intro v1 w4 HS4 HE4)
        go_roundw
        case rel => exact ⟨i + 1, v1, by omega, by go_num, rfl, inferInstance, SepI.cast (Ent.sep (S := _) (T := Row 3 1 v1 ((O i).length + 1) (ints (O i) ++ [.int .i64 s.a]) * S) inferInstance HS4) (by rw [HOY.out i s HS1.out HQ.out, List.length_append, ints_append]; rfl)⟩
        case measure => (simp [intOf]; try omega)
    · have : i = m := by omega
      subst this
      obtain ⟨A0, c0, rfl, hc0, hc1⟩ := Row.form HS3
      go_wp2_with fail
      refine (ascendingI S _ A0 c0 (O i) HS3 (by have := HOL.out i; omega)).mono ?_
      rintro e w5 ⟨v5, rfl, HP⟩
      have HS5 := HP.sep
      have HE5 := HP.ext
      clear HP
      go_wp2
      go_ret
      exact ⟨v5, rfl, Post.mk' HS5 inferInstance⟩
end Go.Proofs.Ytnmbmdigiaokjaa
