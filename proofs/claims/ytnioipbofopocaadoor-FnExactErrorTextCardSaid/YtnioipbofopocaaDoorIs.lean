/- The program's isStep answers as the table of steps says. Condition: at most 2^20 functions. -/
import Derived.Test.YtnioipbofopocaaDoorIp
namespace Go.Proofs.YtnioipbofopocaaDoor
open Go.RowKit SL
attribute [local go_sem] cell_blk frozen_blk lt_blk cell_at frozen_row lt_row
set_option linter.unusedVariables false
set_option linter.unusedSimpArgs false

set_option maxHeartbeats 4000000 in
theorem impl_isStep (S : HP) (w : World) [H : SepI w S] (s : St) (n : Nat) (v : Bool) (hn : n ≤ 1048576) (hv : stepB s n = v) :
    Calls Tryd.prog 92 #[.agg #[.int .i64 s.k, .int .i64 s.a, .int .i64 s.b], .int .i64 n] w fun e w' => e = .returned (.bool v) ∧ Post w S w' := by
  subst hv
  obtain ⟨k, a, b⟩ := s
  simp only
  obtain ⟨va, hva⟩ : ∃ va, inB a 0 3 = va := ⟨_, rfl⟩
  obtain ⟨vb, hvb⟩ : ∃ vb, inB b 0 3 = vb := ⟨_, rfl⟩
  by_cases h1 : k = 1
  · subst h1
    obtain ⟨vn, hvn⟩ : ∃ vn, inB b (-32768) 32767 = vn := ⟨_, rfl⟩
    have e : stepB ⟨1, a, b⟩ n = (va && vn) := by unfold stepB; rw [if_pos rfl]; simp only; rw [hva, hvn]
    rw [e]
    have HA := Hd.mk hva
    have HN := Hd.mk hvn
    clear hva hvb hvn e
    cases va <;> cases vn
    all_goals
      go_enter Tryd.func92, Tryd.ntmps92
      go_wp2
      go_quiet ((go_at_call 122; exact Calls.quiet_of_same (impl_isRegister _ _ _ HA.out)))
      go_wp2_with (first | (go_at_call 123; refine (impl_isNumber _ _ _ HN.out).mono ?_; rintro e w' ⟨rfl, rfl⟩) | (go_at_call 40; refine (impl_in _ _ _ true _ (by decide)).mono ?_; rintro e w' ⟨rfl, rfl⟩))
      go_ret
      exact ⟨rfl, Post.mk' (Ent.sep (S := _) inferInstance inferInstance) inferInstance⟩
  by_cases h2 : k = 2
  · subst h2
    have e : stepB ⟨2, a, b⟩ n = (va && vb) := by simp [stepB, *]
    rw [e]
    have HA := Hd.mk hva
    have HB := Hd.mk hvb
    clear hva hvb e h1
    cases va <;> cases vb
    all_goals
      go_enter Tryd.func92, Tryd.ntmps92
      go_wp2
      go_quiet ((go_at_call 122; exact Calls.quiet_of_same (impl_isRegister _ _ _ HA.out)))
      go_wp2_with (first | (go_at_call 122; refine (impl_isRegister _ _ _ HB.out).mono ?_; rintro e w' ⟨rfl, rfl⟩) | (go_at_call 40; refine (impl_in _ _ _ true _ (by decide)).mono ?_; rintro e w' ⟨rfl, rfl⟩))
      go_ret
      exact ⟨by first | rfl | (simp [*]; done), Post.mk' (Ent.sep (S := _) inferInstance inferInstance) inferInstance⟩
  by_cases h4 : k = 4
  · subst h4
    obtain ⟨vf, hvf⟩ : ∃ vf, inB a 0 ((n : Int) - 1) = vf := ⟨_, rfl⟩
    have e : stepB ⟨4, a, b⟩ n = (vf && vb) := by simp [stepB, *]
    rw [e]
    have HA := Hd.mk hva
    have HB := Hd.mk hvb
    have HF := Hd.mk hvf
    clear hva hvb hvf e h1 h2
    have hw : IntKind.i64.wrap ((n : Int) - 1) = (n : Int) - 1 := IntWalk.i64_in _ (by omega)
    cases vf <;> cases vb
    all_goals
      go_enter Tryd.func92, Tryd.ntmps92
      go_wp2
      go_quiet ((go_at_call 122; exact Calls.quiet_of_same (impl_isRegister _ _ _ HA.out)))
      go_wp2
      go_quiet (first | (go_at_call 40; exact quietN (impl_in _ _ _ _ _ HF.out)) | (go_at_call 122; exact quietN (impl_isRegister _ _ _ HB.out)))
      go_wp2_with (go_at_call 40; refine (impl_in _ _ _ true _ (by decide)).mono ?_; rintro e w' ⟨rfl, rfl⟩)
      go_ret
      exact ⟨by first | rfl | (simp [*]; done), Post.mk' (Ent.sep (S := _) inferInstance inferInstance) inferInstance⟩
  by_cases h5 : k = 5
  · subst h5
    obtain ⟨vf, hvf⟩ : ∃ vf, inB a 0 ((n : Int) - 1) = vf := ⟨_, rfl⟩
    have e : stepB ⟨5, a, b⟩ n = (vf && vb) := by simp [stepB, *]
    rw [e]
    have HA := Hd.mk hva
    have HB := Hd.mk hvb
    have HF := Hd.mk hvf
    clear hva hvb hvf e h1 h2
    have hw : IntKind.i64.wrap ((n : Int) - 1) = (n : Int) - 1 := IntWalk.i64_in _ (by omega)
    cases vf <;> cases vb
    all_goals
      go_enter Tryd.func92, Tryd.ntmps92
      go_wp2
      go_quiet ((go_at_call 122; exact Calls.quiet_of_same (impl_isRegister _ _ _ HA.out)))
      go_wp2
      go_quiet (first | (go_at_call 40; exact quietN (impl_in _ _ _ _ _ HF.out)) | (go_at_call 122; exact quietN (impl_isRegister _ _ _ HB.out)))
      go_wp2_with (go_at_call 40; refine (impl_in _ _ _ true _ (by decide)).mono ?_; rintro e w' ⟨rfl, rfl⟩)
      go_ret
      exact ⟨by first | rfl | (simp [*]; done), Post.mk' (Ent.sep (S := _) inferInstance inferInstance) inferInstance⟩
  by_cases h11 : k = 11
  · subst h11
    obtain ⟨vf, hvf⟩ : ∃ vf, inB a 0 8 = vf := ⟨_, rfl⟩
    have e : stepB ⟨11, a, b⟩ n = (vf && vb) := by simp [stepB, *]
    rw [e]
    have HA := Hd.mk hva
    have HB := Hd.mk hvb
    have HF := Hd.mk hvf
    clear hva hvb hvf e h1 h2 h4 h5
    cases vf <;> cases vb
    all_goals
      go_enter Tryd.func92, Tryd.ntmps92
      go_wp2
      go_quiet ((go_at_call 122; exact Calls.quiet_of_same (impl_isRegister _ _ _ HA.out)))
      go_wp2
      go_quiet (first | (go_at_call 40; exact quietN (impl_in _ _ _ _ _ HF.out)) | (go_at_call 122; exact quietN (impl_isRegister _ _ _ HB.out)))
      go_wp2_with (go_at_call 40; refine (impl_in _ _ _ true _ (by decide)).mono ?_; rintro e w' ⟨rfl, rfl⟩)
      go_ret
      exact ⟨by first | rfl | (simp [*]; done), Post.mk' (Ent.sep (S := _) inferInstance inferInstance) inferInstance⟩
  by_cases h10 : k = 10
  · subst h10
    have e : stepB ⟨10, a, b⟩ n = (decide (a = 0) && decide (b = 0)) := by simp [stepB, *]
    rw [e]
    have HA := Hd.mk hva
    clear hva hvb e h1 h2 h4 h5 h11
    by_cases ha0 : a = 0
    · subst ha0
      by_cases hb0 : b = 0
      · subst hb0
        go_enter Tryd.func92, Tryd.ntmps92
        go_wp2
        go_quiet ((go_at_call 122; exact Calls.quiet_of_same (impl_isRegister _ _ _ HA.out)))
        go_wp2_with (go_at_call 40; refine (impl_in _ _ _ true _ (by decide)).mono ?_; rintro e w' ⟨rfl, rfl⟩)
        go_ret
        exact ⟨by first | rfl | (simp [*]; done), Post.mk' (Ent.sep (S := _) inferInstance inferInstance) inferInstance⟩
      · have hb' := bne_of hb0
        rw [decide_eq_false hb0]
        clear hb0
        go_enter Tryd.func92, Tryd.ntmps92
        go_wp2
        go_quiet ((go_at_call 122; exact Calls.quiet_of_same (impl_isRegister _ _ _ HA.out)))
        go_wp2_with (go_at_call 40; refine (impl_in _ _ _ true _ (by decide)).mono ?_; rintro e w' ⟨rfl, rfl⟩)
        go_ret
        exact ⟨by first | rfl | (simp [*]; done), Post.mk' (Ent.sep (S := _) inferInstance inferInstance) inferInstance⟩
    · have ha' := bne_of ha0
      rw [decide_eq_false ha0]
      clear ha0
      by_cases hb0 : b = 0
      · subst hb0
        go_enter Tryd.func92, Tryd.ntmps92
        go_wp2
        go_quiet ((go_at_call 122; exact Calls.quiet_of_same (impl_isRegister _ _ _ HA.out)))
        go_wp2_with (go_at_call 40; refine (impl_in _ _ _ true _ (by decide)).mono ?_; rintro e w' ⟨rfl, rfl⟩)
        go_ret
        exact ⟨by first | rfl | (simp [*]; done), Post.mk' (Ent.sep (S := _) inferInstance inferInstance) inferInstance⟩
      · have hb' := bne_of hb0
        rw [decide_eq_false hb0]
        clear hb0
        go_enter Tryd.func92, Tryd.ntmps92
        go_wp2
        go_quiet ((go_at_call 122; exact Calls.quiet_of_same (impl_isRegister _ _ _ HA.out)))
        go_wp2_with (go_at_call 40; refine (impl_in _ _ _ true _ (by decide)).mono ?_; rintro e w' ⟨rfl, rfl⟩)
        go_ret
        exact ⟨by first | rfl | (simp [*]; done), Post.mk' (Ent.sep (S := _) inferInstance inferInstance) inferInstance⟩
  obtain ⟨vk, hvk⟩ : ∃ vk, inB k 1 13 = vk := ⟨_, rfl⟩
  obtain ⟨vz, hvz⟩ : ∃ vz, decide (b = 0) = vz := ⟨_, rfl⟩
  have e : stepB ⟨k, a, b⟩ n = (vk && (va && vz)) := by unfold stepB; rw [if_neg h1, if_neg h2, if_neg (by simp only; omega), if_neg h11, if_neg h10]; simp only; rw [hvk, hva, hvz]
  rw [e]
  have HA := Hd.mk hva
  have HK := Hd.mk hvk
  have q1 := bne_of h1
  have q2 := bne_of h2
  have q4 := bne_of h4
  have q5 := bne_of h5
  have q10 := bne_of h10
  have q11 := bne_of h11
  clear hva hvb hvk e h1 h2 h4 h5 h10 h11
  by_cases hb0 : b = 0
  · subst hb0
    have : vz = true := by rw [← hvz]; rfl
    subst this
    clear hvz
    cases va <;> cases vk
    all_goals
      go_enter Tryd.func92, Tryd.ntmps92
      go_wp2
      go_quiet ((go_at_call 122; exact Calls.quiet_of_same (impl_isRegister _ _ _ HA.out)))
      go_wp2_with (go_at_call 40; refine (impl_in _ _ _ _ _ HK.out).mono ?_; rintro e w' ⟨rfl, rfl⟩)
      go_ret
      exact ⟨by first | rfl | (simp [*]; done), Post.mk' (Ent.sep (S := _) inferInstance inferInstance) inferInstance⟩
  · have hb' := bne_of hb0
    have : vz = false := by rw [← hvz]; exact decide_eq_false hb0
    subst this
    clear hvz hb0
    cases va <;> cases vk
    all_goals
      go_enter Tryd.func92, Tryd.ntmps92
      go_wp2
      go_quiet ((go_at_call 122; exact Calls.quiet_of_same (impl_isRegister _ _ _ HA.out)))
      go_wp2_with (go_at_call 40; refine (impl_in _ _ _ _ _ HK.out).mono ?_; rintro e w' ⟨rfl, rfl⟩)
      go_ret
      exact ⟨by first | rfl | (simp [*]; done), Post.mk' (Ent.sep (S := _) inferInstance inferInstance) inferInstance⟩

end Go.Proofs.YtnioipbofopocaaDoor
