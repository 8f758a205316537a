/- Laws of the list of operations, at a step of a region that draws its order. Conditions: none; plain lemmas. -/
import Derived.Test.YtnioipbofopocaaDoorLb
import Derived.Deep.RegionHeld3
namespace Go.Proofs.YtnioipbofopocaaDoor.SL
open Go.RowKit
set_option linter.unusedVariables false
section
variable {P : Program} {ops : Array Oper} {o : Oper} {a : Act} {w : World} {K : Act → World → Prop} {Q : Exit → Act → World → Prop} {E : Prop}
/-- The post of one step that ends as it should. -/
def only (K : Act → World → Prop) (e : Exit) (a : Act) (w : World) : Prop := e = .normal ∧ K a w
theorem Oper.wp_only (h : o.wp P a w (only K .normal) (only K)) : o.wp P a w K Q := by
  unfold Oper.wp at *
  generalize (execOp a.eval o).run P w = r at *
  cases r with
  | ok n w' =>
    cases n with
    | value v => exact h.2
    | skip => exact h.2
    | defer d => exact h.2
    | row row args => exact Rows.mono h fun _ _ h => h.2
    | enter f args =>
      refine Calls.mono h fun e w'' h => ?_
      cases e with
      | returned v => exact h.2
      | panicked c => exact absurd h.1 (by intro h; cases h)
      | outgrown => obtain ⟨_, _, h1, _⟩ := h; cases h1
    | _ => exact h
  | halt x w' =>
    cases x with
    | panic v => exact absurd h.1 (by intro h; cases h)
    | _ => exact h
theorem st_list (hgd : o.guard = none) (h : wpList P ops (only K) [o] a w) : if Region.wanted o (yielded ops a.tmps) = true then Oper.wp P o a w K Q else E := by
  have hw : Region.wanted o (yielded ops a.tmps) = true := by simp [Region.wanted, hgd]
  rw [if_pos hw]
  unfold wpList at h
  rw [if_pos hw] at h
  rcases h with h | ⟨_, _, _, h1, _⟩
  · exact Oper.wp_only h
  · cases h1
end
end Go.Proofs.YtnioipbofopocaaDoor.SL
