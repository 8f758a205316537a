/- Programs: the number of a function; the functions that a body calls or defers. Conditions: lengths within bounds. -/
import Derived.Test.YtnmbmdigiaokjaaIr
import Derived.Test.YtnmbmdigiaokjaaFo
import Derived.Test.YtnmbmdigiaokjaaUw
namespace Go.Proofs.Ytnmbmdigiaokjaa
open Go.RowKit SL
attribute [local go_sem] cell_blk frozen_blk lt_blk cell_at frozen_row lt_row
set_option linter.unusedVariables false
set_option linter.unusedSimpArgs false

/-- A number is one of a function of a valid program. -/
def funB (L : List (List St)) (f : Int) : Bool := progB L && inB f 0 ((L.length : Int) - 1)
theorem funB_of {L : List (List St)} {f : Int} (h : funB L f = true) : progB L = true ∧ ∃ k : Nat, f = k ∧ k < L.length := by
  unfold funB at h
  simp only [Bool.and_eq_true] at h
  refine ⟨h.1, f.toNat, ?_, ?_⟩
  all_goals
    have h2 := h.2
    unfold inB at h2
    simp at h2
    omega
theorem prog_small {L : List (List St)} (h : progB L = true) : 1 ≤ L.length ∧ L.length ≤ 6 ∧ ∀ b ∈ L, b.length ≤ 8 := by
  unfold progB at h
  simp only [Bool.and_eq_true, List.all_eq_true] at h
  have h1 := h.1
  unfold inB at h1
  simp at h1
  refine ⟨by omega, by omega, fun b hb => ?_⟩
  have := h.2 b hb
  unfold bodyB at this
  simp only [Bool.and_eq_true, decide_eq_true_eq] at this
  exact this.1
set_option maxHeartbeats 1000000 in
theorem impl_isFunction (S : HP) (w : World) [H : SepI w S] (A : Option Addr) (c : Nat) (bs : List Bd) [r : Rd S A (cBds bs)] [B : Bodies S bs] (f : Int) (v : Bool) (hv : funB (bs.map (·.l)) f = v) :
    Calls Try.prog 75 #[.agg #[.slice A bs.length c], .int .i64 f] w fun e w' => e = .returned (.bool v) ∧ Post w S w' := by
  have hn := B.n
  unfold funB at hv
  rw [List.length_map] at hv
  obtain ⟨p, hp⟩ : ∃ p, progB (bs.map (·.l)) = p := ⟨_, rfl⟩
  rw [hp] at hv
  have HP := Hd.mk hp
  have HV := Hd.mk hv
  clear hp hv
  cases p
  · go_enter Try.func75, Try.ntmps75
    go_wp2_with fail
    refine (impl_IsProgram _ _ _ _ bs _ HP.out).mono ?_
    rintro e w1 ⟨rfl, HQ⟩
    have HS1 := HQ.sep
    have HE1 := HQ.ext
    clear HQ
    go_wp2
    go_ret
    exact ⟨ret_b (by rw [← HV.out]; rfl), Post.mk' (Ent.sep (S := _) inferInstance inferInstance) inferInstance⟩
  · go_enter Try.func75, Try.ntmps75
    go_wp2_with fail
    refine (impl_IsProgram _ _ _ _ bs _ HP.out).mono ?_
    rintro e w1 ⟨rfl, HQ⟩
    have HS1 := HQ.sep
    have HE1 := HQ.ext
    clear HQ
    rw [Bool.true_and] at HV
    go_wp2_with (go_at_call 61; refine (impl_in _ _ _ v _ HV.out).mono ?_; rintro e w' ⟨rfl, rfl⟩)
    go_ret
    exact ⟨rfl, Post.mk' (Ent.sep (S := _) inferInstance inferInstance) inferInstance⟩
end Go.Proofs.Ytnmbmdigiaokjaa
