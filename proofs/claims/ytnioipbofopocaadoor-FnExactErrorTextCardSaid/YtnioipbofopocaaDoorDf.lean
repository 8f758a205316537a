/- DepthOf: the program's and the reference's answers. Conditions: lengths within bounds. -/
import Derived.Test.YtnioipbofopocaaDoorDe
namespace Go.Proofs.YtnioipbofopocaaDoor
open Go.RowKit SL
attribute [local go_sem] cell_blk frozen_blk lt_blk cell_at frozen_row lt_row
set_option linter.unusedVariables false
set_option linter.unusedSimpArgs false

/-- Two answers. -/
abbrev two (a b : Value) : Ending := .returned (.tuple #[a, b])
/-- What DepthOf answers: the depth at number n, if there is such an error. -/
def depthAns (es : List EC) (n : Int) : Int := if hasB es [n] then (depths es).getD n.toNat 0 else 0
theorem hasB_one {es : List EC} {n : Int} (h : hasB es [n] = true) : errsB es = true ∧ ∃ k : Nat, n = k ∧ k < es.length := by
  unfold hasB at h
  simp only [Bool.and_eq_true, List.all_cons, List.all_nil, Bool.and_true] at h
  have := inB_true h.2
  exact ⟨h.1, n.toNat, by omega, by omega⟩
theorem depths_at {es : List EC} {k : Nat} (h : k < es.length) : ∃ v, (depths es)[k]? = some v := get_ex (by unfold depths; rw [tabF_len]; exact h)

theorem rd_one {S : HP} {g : Nat} {t : TypeId} {fz : Nat × Nat} (a : Int) [h : HasBlk S g (.cells #[.int .i64 a] t fz)] : Rd S (some ⟨g, 0, none⟩) (ints [a]) := Rd.of_blk h
theorem rd_two {S : HP} {g : Nat} {t : TypeId} {fz : Nat × Nat} (a b : Int) [h : HasBlk S g (.cells #[.int .i64 a, .int .i64 b] t fz)] : Rd S (some ⟨g, 0, none⟩) (ints [a, b]) := Rd.of_blk h

end Go.Proofs.YtnioipbofopocaaDoor
