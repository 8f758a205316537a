/- Programs: the functions that a body defers, by the reference. Conditions: lengths within bounds. -/
import Derived.Test.YtnmbmdigiaokjaaFc
namespace Go.Proofs.Ytnmbmdigiaokjaa
open Go.RowKit SL
attribute [local go_sem] cell_blk frozen_blk lt_blk cell_at frozen_row lt_row
set_option linter.unusedVariables false
set_option linter.unusedSimpArgs false

def kDf (k : Int) : Bool := k == 5
set_option maxRecDepth 100000 in
set_option maxHeartbeats 2000000 in
theorem spec_l5Defers (S : HP) (w : World) [H : SepI w S] (A : Option Addr) (c : Nat) (bs : List Bd) [r : Rd S A (cBds bs)] [B : Bodies S bs] (f : Nat) (x : Bd) (hx : bs[f]? = some x) (hs : x.l.length ≤ 8) :
    Calls Try.prog 81 #[.agg #[.slice A bs.length c], .int .i64 f] w fun e w' => ∃ g cc, e = .returned (.slice (some ⟨g, 0, none⟩) (ascA (callN kDf x.l)).length cc) ∧ Post w (Row 3 1 (.slice (some ⟨g, 0, none⟩) (ascA (callN kDf x.l)).length cc) (ascA (callN kDf x.l)).length (ints (ascA (callN kDf x.l))) * S) w' := by
  have hn := B.n
  have hf : f < bs.length := (List.getElem?_eq_some_iff.1 hx).1
  obtain ⟨b0, off, rfl⟩ := r.addr H (j := f) (by rw [cBds_len]; exact hf)
  have c1 := r.cell (cBds_get hx)
  have rx := B.rd x (List.mem_of_getElem? hx)
  obtain ⟨m, hm⟩ : ∃ m, m = x.l.length := ⟨_, rfl⟩
  have HM := Hd.mk hm
  rw [← hm] at c1 hs
  obtain ⟨O, hO⟩ : ∃ O : Nat → List Int, O = fun i => ascA (callN kDf (x.l.take i)) := ⟨_, rfl⟩
  have HO0 : Hd (O 0 = []) := ⟨by rw [hO]; rfl⟩
  have HOM : Hd (O m = ascA (callN kDf x.l)) := ⟨by rw [hO, hm]; simp only [List.take_length]⟩
  have HOY : Hd (∀ i s, x.l[i]? = some s → kDf s.k = true → O (i + 1) = putA (O i) s.a) := ⟨fun i s h hk => by rw [hO]; simp only; rw [callN_yes h hk, ascA_snoc]⟩
  have HON : Hd (∀ i s, x.l[i]? = some s → kDf s.k = false → O (i + 1) = O i) := ⟨fun i s h hk => by rw [hO]; simp only; rw [callN_no h hk]⟩
  have HOL : Hd (∀ i, (O i).length ≤ 8) := ⟨fun i => by
    rw [hO]
    have h1 := ascA_len (callN kDf (x.l.take i))
    have h2 := callN_len kDf (x.l.take i)
    rw [List.length_take] at h2
    simp only
    omega⟩
  rw [← HOM.out]
  clear hx hm hO
  have hlit : SepI (w.alloc (.cells #[.slice (some ⟨b0, off, none⟩) bs.length c] 54 (0, 0)) |>.alloc (.cells #[] 3 (0, 0))) (Row 3 1 (.slice (some ⟨w.heap.size + 1, 0, none⟩) 0 0) 0 [] * (pts w.heap.size (.cells #[.slice (some ⟨b0, off, none⟩) bs.length c] 54 (0, 0)) * S)) :=
    Row.lit0 (SepI.i_alloc _ (.cells #[] 3 (0, 0)) _ _)
  obtain ⟨be, hbe⟩ : ∃ be, be = w.heap.size := ⟨_, rfl⟩
  have HBE := Hd.mk hbe
  clear hbe
  go_enter Try.func81, Try.ntmps81
  go_wp2
  rw [← HBE.out] at hlit ⊢
  go_loopw [5, 6] (fun v5 v6 wr => ∃ (i g cc : Nat), i ≤ m ∧ v6 = .int .i64 i ∧ v5 = .slice (some ⟨g, 0, none⟩) (O i).length cc ∧ ExtI w wr ∧ SepI wr (Row 3 1 (.slice (some ⟨g, 0, none⟩) (O i).length cc) (O i).length (ints (O i)) * (pts be (.cells #[.slice (some ⟨b0, off, none⟩) bs.length c] 54 (0, 0)) * S))) (fun _ v _ => m - (intOf v).toNat)
  case atStart => exact ⟨0, be + 1, 0, Nat.zero_le _, rfl, by rw [HO0.out]; rfl, inferInstance, SepI.cast hlit (by rw [HO0.out]; rfl)⟩
  case round =>
    obtain ⟨i, g, cc, hi, rfl, rfl, HX, HS3⟩ := hrel
    by_cases hlt : i < m
    · obtain ⟨s, hs1⟩ := get_ex (xs := x.l) (k := i) (by rw [← HM.out]; exact hlt)
      obtain ⟨bp, op, hp⟩ := rx.addr H (j := i) (by rw [cSts_len, ← HM.out]; omega)
      rw [hp] at c1 rx
      have e1 := rx.cell (cSts_get hs1).1
      have e2 := rx.cell (cSts_get hs1).2.1
      have e3 := rx.cell (cSts_get hs1).2.2
      obtain ⟨k5, hk5⟩ : ∃ q, (s.k == 5) = q := ⟨_, rfl⟩
      have HK : Hd (kDf s.k = k5) := ⟨by unfold kDf; exact hk5⟩
      have HS1 := Hd.mk hs1
      have HP := Hd.mk hp
      clear hs1 hp
      cases k5
      · go_wp2
        go_roundw
        case rel => exact ⟨i + 1, g, cc, by omega, by go_num, by rw [HON.out i s HS1.out HK.out], inferInstance, SepI.cast (Ent.sep (S := _) (T := Row 3 1 (.slice (some ⟨g, 0, none⟩) (O i).length cc) (O i).length (ints (O i)) * (pts be (.cells #[.slice (some ⟨b0, off, none⟩) bs.length c] 54 (0, 0)) * S)) inferInstance inferInstance) (by rw [HON.out i s HS1.out HK.out])⟩
        case measure => (simp [intOf]; try omega)
      · go_wp2_with fail
        refine (l1Put_some (pts be (.cells #[.slice (some ⟨b0, off, none⟩) bs.length c] 54 (0, 0)) * S) _ g cc (O i) (Ent.sep (S := _) (T := Row 3 1 (.slice (some ⟨g, 0, none⟩) (O i).length cc) (O i).length (ints (O i)) * (pts be (.cells #[.slice (some ⟨b0, off, none⟩) bs.length c] 54 (0, 0)) * S)) inferInstance inferInstance) (by have := HOL.out i; omega) s.a).mono ?_
        rintro e w4 ⟨v4, rfl, HP4⟩
        rw [← HOY.out i s HS1.out HK.out] at HP4
        have HS4 := HP4.sep
        have HE4 := HP4.ext
        have hpos : 0 < (O (i + 1)).length := by rw [HOY.out i s HS1.out HK.out]; exact (putA_len _ _).2
        clear HP4
        obtain ⟨A4, c4, rfl, _, _⟩ := Row.form HS4
        obtain ⟨g4, rfl⟩ := Row.addr HS4 hpos
        clear hpos
        go_wp2
        go_roundw
        case rel => exact ⟨i + 1, g4, c4, by omega, by go_num, rfl, inferInstance, HS4⟩
        case measure => (simp [intOf]; try omega)
    · have : i = m := by omega
      subst this
      go_wp2
      go_ret
      exact ⟨g, cc, rfl, Post.mk' (Ent.sep (S := _) inferInstance inferInstance) inferInstance⟩
end Go.Proofs.Ytnmbmdigiaokjaa
