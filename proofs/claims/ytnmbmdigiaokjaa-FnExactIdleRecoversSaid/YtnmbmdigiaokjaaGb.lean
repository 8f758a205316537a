/- Programs: the places of a body's recovers, by the reference. Conditions: lengths within bounds. -/
import Derived.Test.YtnmbmdigiaokjaaGa
import Derived.Test.YtnmbmdigiaokjaaFw
namespace Go.Proofs.Ytnmbmdigiaokjaa
open Go.RowKit SL
attribute [local go_sem] cell_blk frozen_blk lt_blk cell_at frozen_row lt_row
set_option linter.unusedVariables false
set_option linter.unusedSimpArgs false

/-- Whether step i recovers; the places of the recovers among the first i steps. -/
def recB (l : List St) (i : Nat) : Bool := ((l[i]?).map (·.k)).getD 0 == 7
def recN (l : List St) (i : Nat) : List Nat := (List.range i).filter (recB l)
theorem recN_succ (l : List St) (i : Nat) : recN l (i + 1) = if recB l i then recN l i ++ [i] else recN l i := by
  unfold recN
  rw [List.range_succ, List.filter_append, List.filter_cons, List.filter_nil]
  cases recB l i with
  | true => rfl
  | false => rw [if_neg Bool.false_ne_true, if_neg Bool.false_ne_true, List.append_nil]
theorem recN_len (l : List St) (i : Nat) : (recN l i).length ≤ i := by
  have := List.length_filter_le (recB l) (List.range i)
  rw [List.length_range] at this
  exact this
set_option maxRecDepth 100000 in
set_option maxHeartbeats 2000000 in
theorem spec_l5Recovers (S : HP) (w : World) [H : SepI w S] (A : Option Addr) (c : Nat) (bs : List Bd) [r : Rd S A (cBds bs)] [B : Bodies S bs] (f : Nat) (x : Bd) (hx : bs[f]? = some x) (hs : x.l.length ≤ 8) :
    Calls Try.prog 82 #[.agg #[.slice A bs.length c], .int .i64 f] w (FndPost S (recN x.l x.l.length) w) := by
  have hn := B.n
  have hf : f < bs.length := (List.getElem?_eq_some_iff.1 hx).1
  obtain ⟨b0, off, rfl⟩ := r.addr H (j := f) (by rw [cBds_len]; exact hf)
  have c1 := r.cell (cBds_get hx)
  have rx := B.rd x (List.mem_of_getElem? hx)
  obtain ⟨m, hm⟩ : ∃ m, m = x.l.length := ⟨_, rfl⟩
  have HM := Hd.mk hm
  rw [← hm] at c1 hs ⊢
  obtain ⟨O, hO⟩ : ∃ O : Nat → List Nat, O = recN x.l := ⟨_, rfl⟩
  have HO0 : Hd (O 0 = []) := ⟨by rw [hO]; rfl⟩
  have HON : Hd (∀ i, O (i + 1) = if recB x.l i then O i ++ [i] else O i) := ⟨fun i => by rw [hO]; exact recN_succ x.l i⟩
  have HOL : Hd (∀ i, (O i).length ≤ i) := ⟨fun i => by rw [hO]; exact recN_len x.l i⟩
  rw [← hO]
  clear hx hm hO
  have hlit : SepI (w.alloc (.cells #[.slice (some ⟨b0, off, none⟩) bs.length c] 54 (0, 0)) |>.alloc (.cells #[] 3 (0, 0))) (Row 3 1 (.slice (some ⟨w.heap.size + 1, 0, none⟩) 0 0) 0 [] * (pts w.heap.size (.cells #[.slice (some ⟨b0, off, none⟩) bs.length c] 54 (0, 0)) * S)) :=
    Row.lit0 (SepI.i_alloc _ (.cells #[] 3 (0, 0)) _ _)
  obtain ⟨be, hbe⟩ : ∃ be, be = w.heap.size := ⟨_, rfl⟩
  have HBE := Hd.mk hbe
  clear hbe
  go_enter Try.func82, Try.ntmps82
  go_wp2
  rw [← HBE.out] at hlit ⊢
  go_loopw [5, 6] (fun v5 v6 wr => ∃ (i : Nat) (vv : Value), i ≤ m ∧ v6 = .int .i64 i ∧ v5 = vv ∧ ExtI w wr ∧ SepI wr (Row 3 1 vv (nats (O i)).length (ints (nats (O i))) * (pts be (.cells #[.slice (some ⟨b0, off, none⟩) bs.length c] 54 (0, 0)) * S))) (fun _ v _ => m - (intOf v).toNat)
  case atStart => exact ⟨0, .slice (some ⟨be + 1, 0, none⟩) 0 0, Nat.zero_le _, rfl, rfl, inferInstance, SepI.cast hlit (by rw [HO0.out]; rfl)⟩
  case round =>
    obtain ⟨i, vv, hi, rfl, rfl, HX, HS3⟩ := hrel
    by_cases hlt : i < m
    · obtain ⟨s, hs1⟩ := get_ex (xs := x.l) (k := i) (by rw [← HM.out]; exact hlt)
      obtain ⟨bp, op, hp⟩ := rx.addr H (j := i) (by rw [cSts_len, ← HM.out]; omega)
      rw [hp] at c1 rx
      have e1 := rx.cell (cSts_get hs1).1
      obtain ⟨k7, hk7⟩ : ∃ q, (s.k == 7) = q := ⟨_, rfl⟩
      have HK : Hd (recB x.l i = k7) := ⟨by unfold recB; rw [hs1]; exact hk7⟩
      obtain ⟨A0, c0, rfl, hc0, hc1⟩ := Row.form HS3
      have hll := HOL.out i
      have hln := nats_len (O i)
      have hl2 : (nats (O i)).length ≤ 12 := by omega
      have HP := Hd.mk hp
      clear hs1 hp hln
      cases k7
      · have HNX : Hd (O (i + 1) = O i) := ⟨by rw [HON.out i, HK.out]; rfl⟩
        go_wp2
        go_roundw
        case rel => exact ⟨i + 1, .slice A0 (nats (O i)).length c0, by omega, by go_num, rfl, inferInstance, SepI.cast inferInstance (by rw [HNX.out])⟩
        case measure => (simp [intOf]; try omega)
      · have HNX : Hd (O (i + 1) = O i ++ [i]) := ⟨by rw [HON.out i, HK.out]; rfl⟩
        go_wp2_with (at_builtin; go_must (refine ev_append (v := .slice A0 (nats (O i)).length c0) rfl _ _ 34 rfl rfl 8 _ Try.underlying34 info_int rfl (by decide) (by decide) wr.heap.size 1 1 rfl rfl (by simp [Value.oneCell']) (by omega) ?_); intro v1 w4 HS4 HE4)
        go_roundw
        case rel => exact ⟨i + 1, v1, by omega, by go_num, rfl, inferInstance, SepI.cast (Ent.sep (S := _) (T := Row 3 1 v1 ((nats (O i)).length + 1) (ints (nats (O i)) ++ [.int .i64 i]) * (pts be (.cells #[.slice (some ⟨b0, off, none⟩) bs.length c] 54 (0, 0)) * S)) inferInstance HS4) (by rw [HNX.out, nats_snoc, List.length_append, ints_append]; rfl)⟩
        case measure => (simp [intOf]; try omega)
    · have : i = m := by omega
      subst this
      obtain ⟨A0, c0, rfl, hc0, hc1⟩ := Row.form HS3
      go_wp2
      go_ret
      exact ⟨.slice A0 (nats (O i)).length c0, rfl, Post.mk' (Ent.sep (S := _) inferInstance inferInstance) inferInstance⟩
end Go.Proofs.Ytnmbmdigiaokjaa
