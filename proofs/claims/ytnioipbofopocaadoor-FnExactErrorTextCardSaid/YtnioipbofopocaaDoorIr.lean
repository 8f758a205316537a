/- The reference's l2Program. Conditions: lengths within bounds. -/
import Derived.Test.YtnioipbofopocaaDoorIc
import Derived.StillTailTactics
namespace Go.Proofs.YtnioipbofopocaaDoor
open Go.RowKit SL
attribute [local go_sem] cell_blk frozen_blk lt_blk cell_at frozen_row lt_row
set_option linter.unusedVariables false
set_option linter.unusedSimpArgs false

theorem all_take_succ {α : Type} {l : List α} {k : Nat} {x : α} (p : α → Bool) (h : l[k]? = some x) (h0 : (l.take k).all p = true) (h1 : p x = true) : (l.take (k + 1)).all p = true := by
  rw [take_succ_eq h, List.all_append, h0]; simp [h1]
theorem all_miss {α : Type} {l : List α} {k : Nat} {x : α} (p : α → Bool) (h : l[k]? = some x) (h1 : p x = false) : l.all p = false := by
  rw [← Bool.not_eq_true, List.all_eq_true]
  intro q
  rw [q x (List.mem_of_getElem? h)] at h1
  cases h1

set_option maxRecDepth 100000 in
set_option maxHeartbeats 4000000 in
theorem spec_l2Program (S : HP) (w : World) [H : SepI w S] (A : Option Addr) (c : Nat) (bs : List Bd) [r : Rd S A (cBds bs)] [B : Bodies S bs] :
    Calls Tryd.prog 60 #[.agg #[.slice A bs.length c]] w fun e w' => e = .returned (.bool (progB (bs.map (·.l)))) ∧ Post w S w' := by
  have hn := B.n
  have HB := Hd.mk B
  clear B
  obtain ⟨n, hn'⟩ : ∃ n, n = bs.length := ⟨_, rfl⟩
  have HN := Hd.mk hn'
  rw [← hn'] at hn ⊢
  have hP : progB (bs.map (·.l)) = (inB n 1 6 && bs.all (fun x => bodyB n x.l)) := by unfold progB; rw [List.length_map, List.all_map, ← hn']; rfl
  rw [hP]
  clear hn' hP
  cases hi : inB n 1 6
  · have HI := Hd.mk hi
    clear hi
    go_enter Tryd.func60, Tryd.ntmps60
    go_wp2_with (go_at_call 38; refine (spec_in _ _ _ _ _ HI.out).mono ?_; rintro e w' ⟨rfl, rfl⟩)
    go_ret
    exact ⟨rfl, Post.mk' (Ent.sep (S := _) inferInstance inferInstance) inferInstance⟩
  · have HI := Hd.mk hi
    have hn1 := inB_true hi
    clear hi
    go_enter Tryd.func60, Tryd.ntmps60
    go_wp2_with (go_at_call 38; refine (spec_in _ _ _ _ _ HI.out).mono ?_; rintro e w' ⟨rfl, rfl⟩)
    obtain ⟨g, hg⟩ : ∃ g, g = w.heap.size := ⟨_, rfl⟩
    have H1 : SepI (w.alloc (.cells #[.slice A n c] 48)) (pts g (.cells #[.slice A n c] 48 (0, 0)) * S) := by rw [hg]; infer_instance
    rw [← hg]
    have HG := Hd.mk hg
    clear hg
    go_loopw [3] (fun i wr => ∃ k : Nat, k ≤ n ∧ i = .int .i64 k ∧ Hd ((bs.take k).all (fun x => bodyB n x.l) = true) ∧ SepI wr (pts g (.cells #[.slice A n c] 48 (0, 0)) * S) ∧ ExtI w wr) (fun i _ => n - (intOf i).toNat)
    case atStart => exact ⟨0, Nat.zero_le _, rfl, ⟨rfl⟩, H1, inferInstance⟩
    case round =>
      obtain ⟨k, hk, rfl, HT, HS, HE⟩ := hrel
      by_cases hlt : k < n
      · obtain ⟨x, hx⟩ := get_ex (xs := bs) (k := k) (by rw [← HN.out]; exact hlt)
        obtain ⟨b, off, rfl⟩ := r.addr H (j := k) (by rw [cBds_len, ← HN.out]; omega)
        have c1 := r.cell (cBds_get hx)
        have rx := HB.out.rd x (List.mem_of_getElem? hx)
        have HX := Hd.mk hx
        clear hx
        obtain ⟨m, hm⟩ : ∃ m, m = x.l.length := ⟨_, rfl⟩
        have HM := Hd.mk hm
        rw [← hm] at c1
        clear hm
        by_cases h8 : m ≤ 8
        · go_wp2
          obtain ⟨wo, rfl⟩ : ∃ wo : World, wo = wr := ⟨_, rfl⟩
          go_loopw [4] (fun i wr => ∃ j : Nat, j ≤ m ∧ i = .int .i64 j ∧ Hd ((x.l.take j).all (stepB · n) = true) ∧ SepI wr (pts g (.cells #[.slice (some ⟨b, off, none⟩) n c] 48 (0, 0)) * S) ∧ ExtI w wr) (fun i _ => m - (intOf i).toNat)
          case atStart => exact ⟨0, Nat.zero_le _, rfl, ⟨rfl⟩, inferInstance, inferInstance⟩
          case round =>
            obtain ⟨j, hj, rfl, HT2, HS2, HE2⟩ := hrel
            by_cases hjt : j < m
            · obtain ⟨y, hy⟩ := get_ex (xs := x.l) (k := j) (by rw [← HM.out]; exact hjt)
              obtain ⟨p, hp⟩ : ∃ p, p = x.p := ⟨_, rfl⟩
              rw [← hp] at rx c1
              have HPX := Hd.mk hp
              clear hp
              obtain ⟨b', off', rfl⟩ := rx.addr H (j := j) (by rw [cSts_len, ← HM.out]; omega)
              have d1 := rx.cell (cSts_get hy).1
              have d2 := rx.cell (cSts_get hy).2.1
              have d3 := rx.cell (cSts_get hy).2.2
              have HY := Hd.mk hy
              clear hy
              cases hq : stepB y n
              · have HQ := Hd.mk hq
                clear hq
                go_wp2
                go_still_tail 9, (by kernel_rfl)
                change wpList _ _ _ _ _ wr.drew
                go_wp2_with (go_at_call 87; refine (spec_l2Step _ _ _ _ y n _ hn HQ.out).mono ?_; rintro e w' ⟨rfl, HP'⟩; have HS3 := HP'.sep; have HE3 := HP'.ext; clear HP')
                go_ret
                exact ⟨ret_b (by rw [all_miss (fun x => bodyB n x.l) HX.out (by unfold bodyB; rw [all_miss (stepB · n) HY.out HQ.out, Bool.and_false]), Bool.and_false]), Post.mk' (Ent.sep (S := _) inferInstance inferInstance) inferInstance⟩
              · have HQ := Hd.mk hq
                clear hq
                go_wp2
                go_still_tail 9, (by kernel_rfl)
                change wpList _ _ _ _ _ wr.drew
                go_wp2_with (go_at_call 87; refine (spec_l2Step _ _ _ _ y n _ hn HQ.out).mono ?_; rintro e w' ⟨rfl, HP'⟩; have HS3 := HP'.sep; have HE3 := HP'.ext; clear HP')
                go_roundw
                case rel => exact ⟨j + 1, by omega, by go_num, ⟨all_take_succ (stepB · n) HY.out HT2.out HQ.out⟩, inferInstance, inferInstance⟩
                case measure => simp [intOf]; omega
            · have : j = m := by omega
              subst this
              go_wp2
              go_roundw
              case rel => exact ⟨k + 1, by omega, by go_num, ⟨all_take_succ (fun x => bodyB n x.l) HX.out HT.out (by
                unfold bodyB
                have := HT2.out
                rw [HM.out, List.take_length] at this
                rw [this, Bool.and_true]
                exact decide_eq_true (by rw [← HM.out]; exact h8))⟩, HS2, HE2⟩
              case measure => simp [intOf]; omega
        · have h8' : 8 < m := by omega
          clear h8
          go_wp2
          go_ret
          exact ⟨ret_b (by rw [all_miss (fun x => bodyB n x.l) HX.out (by unfold bodyB; rw [decide_eq_false (by rw [← HM.out]; omega), Bool.false_and]), Bool.and_false]), Post.mk' (Ent.sep (S := _) inferInstance inferInstance) inferInstance⟩
      · have : k = n := by omega
        subst this
        go_wp2
        go_ret
        exact ⟨ret_b (by have := HT.out; rw [HN.out, List.take_length, ← HN.out] at this; rw [this]; rfl), Post.mk' (Ent.sep (S := _) inferInstance inferInstance) inferInstance⟩

end Go.Proofs.YtnioipbofopocaaDoor
