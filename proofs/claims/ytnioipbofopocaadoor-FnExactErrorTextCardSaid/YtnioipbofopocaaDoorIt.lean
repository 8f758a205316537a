/- The reference's l2Step answers as the table of steps says. Condition: at most 2^20 functions. -/
import Derived.Test.YtnioipbofopocaaDoorIp
namespace Go.Proofs.YtnioipbofopocaaDoor
open Go.RowKit SL
attribute [local go_sem] cell_blk frozen_blk lt_blk cell_at frozen_row lt_row
set_option linter.unusedVariables false
set_option linter.unusedSimpArgs false

set_option maxHeartbeats 8000000 in
theorem spec_l2Step (S : HP) (w : World) [H : SepI w S] (A : Option Addr) (c : Nat) (s : St) (n : Nat) (v : Bool) (hn : n ≤ 1048576) (hv : stepB s n = v) :
    Calls Tryd.prog 87 #[.agg #[.slice A n c], .agg #[.int .i64 s.k, .int .i64 s.a, .int .i64 s.b]] w fun e w' => e = .returned (.bool v) ∧ Post w S w' := by
  subst hv
  obtain ⟨k, a, b⟩ := s
  simp only
  obtain ⟨va, hva⟩ : ∃ va, inB a 0 3 = va := ⟨_, rfl⟩
  obtain ⟨vb, hvb⟩ : ∃ vb, inB b 0 3 = vb := ⟨_, rfl⟩
  have HA := Hd.mk hva
  have HB := Hd.mk hvb
  by_cases h1 : k = 1
  · subst h1
    obtain ⟨vn, hvn⟩ : ∃ vn, inB b (-32768) 32767 = vn := ⟨_, rfl⟩
    have e : stepB ⟨1, a, b⟩ n = (va && vn) := by simp [stepB, *]
    rw [e]
    have HN := Hd.mk hvn
    clear hva hvb hvn e
    cases va <;> cases vn
    all_goals
      go_enter Tryd.func87, Tryd.ntmps87
      go_wp2_with (first | (go_at_call 117; refine (spec_l2Reg _ _ _ HA.out).mono ?_; rintro e w' ⟨rfl, rfl⟩) | (go_at_call 118; refine (spec_l2Number _ _ _ HN.out).mono ?_; rintro e w' ⟨rfl, rfl⟩))
      go_ret
      exact ⟨by first | rfl | (simp [*]; done), Post.mk' (Ent.sep (S := _) inferInstance inferInstance) inferInstance⟩
  by_cases h2 : k = 2
  · subst h2
    have e : stepB ⟨2, a, b⟩ n = (va && vb) := by simp [stepB, *]
    rw [e]
    clear hva hvb e h1
    cases va <;> cases vb
    all_goals
      go_enter Tryd.func87, Tryd.ntmps87
      go_wp2_with (first | (go_at_call 117; (first | (with_reducible refine (spec_l2Reg a _ _ HA.out).mono ?_) | (with_reducible refine (spec_l2Reg b _ _ HB.out).mono ?_)); rintro e w' ⟨rfl, rfl⟩))
      go_ret
      exact ⟨by first | rfl | (simp [*]; done), Post.mk' (Ent.sep (S := _) inferInstance inferInstance) inferInstance⟩
  by_cases h4 : k = 4
  · subst h4
    obtain ⟨vf, hvf⟩ : ∃ vf, inB a 0 ((n : Int) - 1) = vf := ⟨_, rfl⟩
    have e : stepB ⟨4, a, b⟩ n = (vf && vb) := by simp [stepB, *]
    rw [e]
    have HF := Hd.mk hvf
    clear hva hvb hvf e h1 h2
    cases vf <;> cases vb
    all_goals
      go_enter Tryd.func87, Tryd.ntmps87
      go_wp2_with (first | (go_at_call 119; refine (spec_l2Function _ _ _ _ _ _ _ hn HF.out).mono ?_; rintro e w' ⟨rfl, HP'⟩; have HS2 := HP'.sep; have HE2 := HP'.ext; clear HP') | (go_at_call 117; refine (spec_l2Reg b _ _ HB.out).mono ?_; rintro e w' ⟨rfl, rfl⟩))
      go_ret
      exact ⟨by first | rfl | (simp [*]; done), Post.mk' (Ent.sep (S := _) inferInstance inferInstance) inferInstance⟩
  by_cases h5 : k = 5
  · subst h5
    obtain ⟨vf, hvf⟩ : ∃ vf, inB a 0 ((n : Int) - 1) = vf := ⟨_, rfl⟩
    have e : stepB ⟨5, a, b⟩ n = (vf && vb) := by simp [stepB, *]
    rw [e]
    have HF := Hd.mk hvf
    clear hva hvb hvf e h1 h2
    cases vf <;> cases vb
    all_goals
      go_enter Tryd.func87, Tryd.ntmps87
      go_wp2_with (first | (go_at_call 119; refine (spec_l2Function _ _ _ _ _ _ _ hn HF.out).mono ?_; rintro e w' ⟨rfl, HP'⟩; have HS2 := HP'.sep; have HE2 := HP'.ext; clear HP') | (go_at_call 117; refine (spec_l2Reg b _ _ HB.out).mono ?_; rintro e w' ⟨rfl, rfl⟩))
      go_ret
      exact ⟨by first | rfl | (simp [*]; done), Post.mk' (Ent.sep (S := _) inferInstance inferInstance) inferInstance⟩
  by_cases h11 : k = 11
  · subst h11
    obtain ⟨vf, hvf⟩ : ∃ vf, inB a 0 8 = vf := ⟨_, rfl⟩
    have e : stepB ⟨11, a, b⟩ n = (vf && vb) := by simp [stepB, *]
    rw [e]
    have HF := Hd.mk hvf
    clear hva hvb hvf e h1 h2 h4 h5
    cases vf <;> cases vb
    all_goals
      go_enter Tryd.func87, Tryd.ntmps87
      go_wp2_with (first | (go_at_call 38; refine (spec_in _ _ _ _ _ HF.out).mono ?_; rintro e w' ⟨rfl, rfl⟩) | (go_at_call 117; refine (spec_l2Reg _ _ _ HB.out).mono ?_; rintro e w' ⟨rfl, rfl⟩))
      go_ret
      exact ⟨by first | rfl | (simp [*]; done), Post.mk' (Ent.sep (S := _) inferInstance inferInstance) inferInstance⟩
  by_cases h10 : k = 10
  · subst h10
    have e : stepB ⟨10, a, b⟩ n = (decide (a = 0) && decide (b = 0)) := by simp [stepB]
    rw [e]
    clear hva hvb e h1 h2 h4 h5 h11
    by_cases ha0 : a = 0
    · subst ha0
      by_cases hb0 : b = 0
      · subst hb0
        go_enter Tryd.func87, Tryd.ntmps87
        go_wp2
        go_ret
        exact ⟨by first | rfl | (simp [*]; done), Post.mk' (Ent.sep (S := _) inferInstance inferInstance) inferInstance⟩
      · have hb' := bne_of hb0
        rw [decide_eq_false hb0]
        clear hb0
        go_enter Tryd.func87, Tryd.ntmps87
        go_wp2
        go_ret
        exact ⟨by first | rfl | (simp [*]; done), Post.mk' (Ent.sep (S := _) inferInstance inferInstance) inferInstance⟩
    · have ha' := bne_of ha0
      rw [decide_eq_false ha0]
      clear ha0
      go_enter Tryd.func87, Tryd.ntmps87
      go_wp2
      go_ret
      exact ⟨by first | rfl | (simp [*]; done), Post.mk' (Ent.sep (S := _) inferInstance inferInstance) inferInstance⟩
  by_cases hk : k = 3 ∨ k = 6 ∨ k = 7 ∨ k = 8 ∨ k = 9 ∨ k = 12 ∨ k = 13
  · have e : stepB ⟨k, a, b⟩ n = (va && decide (b = 0)) := by
      rcases hk with h | h | h | h | h | h | h <;> subst h <;> simp [stepB, inB, ← hva]
    rw [e]
    clear hva hvb e h1 h2 h4 h5 h10 h11
    by_cases hb0 : b = 0
    · subst hb0
      cases va
      all_goals
        rcases hk with h | h | h | h | h | h | h
        all_goals
          subst h
          go_enter Tryd.func87, Tryd.ntmps87
          go_wp2_with (first | (go_at_call 117; refine (spec_l2Reg _ _ _ HA.out).mono ?_; rintro e w' ⟨rfl, rfl⟩))
          go_ret
          exact ⟨by first | rfl | (simp [*]; done), Post.mk' (Ent.sep (S := _) inferInstance inferInstance) inferInstance⟩
    · have hb' := bne_of hb0
      rw [decide_eq_false hb0]
      clear hb0
      cases va
      all_goals
        rcases hk with h | h | h | h | h | h | h
        all_goals
          subst h
          go_enter Tryd.func87, Tryd.ntmps87
          go_wp2_with (first | (go_at_call 117; refine (spec_l2Reg _ _ _ HA.out).mono ?_; rintro e w' ⟨rfl, rfl⟩))
          go_ret
          exact ⟨by first | rfl | (simp [*]; done), Post.mk' (Ent.sep (S := _) inferInstance inferInstance) inferInstance⟩
  have e : stepB ⟨k, a, b⟩ n = false := by
    have hk' : inB k 1 13 = false := decide_eq_false (by omega)
    simp [stepB, h1, h2, h4, h5, h10, h11, hk']
  rw [e]
  have q1 := bne_of h1
  have q2 := bne_of h2
  have q4 := bne_of h4
  have q5 := bne_of h5
  have q10 := bne_of h10
  have q11 := bne_of h11
  have q3 : (k == 3) = false := bne_of (by omega)
  have q6 : (k == 6) = false := bne_of (by omega)
  have q7 : (k == 7) = false := bne_of (by omega)
  have q8 : (k == 8) = false := bne_of (by omega)
  have q9 : (k == 9) = false := bne_of (by omega)
  have q12 : (k == 12) = false := bne_of (by omega)
  have q13 : (k == 13) = false := bne_of (by omega)
  clear hva hvb e h1 h2 h4 h5 h10 h11 hk
  go_enter Tryd.func87, Tryd.ntmps87
  go_wp2
  go_ret
  exact ⟨by first | rfl | (simp [*]; done), Post.mk' (Ent.sep (S := _) inferInstance inferInstance) inferInstance⟩
end Go.Proofs.YtnioipbofopocaaDoor
