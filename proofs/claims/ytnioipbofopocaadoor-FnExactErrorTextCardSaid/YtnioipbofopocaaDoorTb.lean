/- What is told of each error out of what is told of its parts: the program's each[int] by a closure's contract. Conditions: lengths within bounds. -/
import Derived.Test.YtnioipbofopocaaDoorHs
import Derived.StillTailTactics
namespace Go.Proofs.YtnioipbofopocaaDoor
open Go.RowKit SL
attribute [local go_sem] cell_blk frozen_blk lt_blk cell_at frozen_row lt_row
set_option linter.unusedVariables false
set_option linter.unusedSimpArgs false

theorem ints_set (l : List Int) (k : Nat) (x : Int) : (ints l).set k (.int .i64 x) = ints (l.set k x) := by simp [ints, List.map_set]
/-- A table, told from its end: m entries are told. -/
def tabF (n : Nat) (of : Nat → List Int → Int) : Nat → List Int
  | 0 => List.replicate n 0
  | m + 1 => (tabF n of m).set (n - 1 - m) (of (n - 1 - m) (tabF n of m))
theorem tabF_len (n : Nat) (of : Nat → List Int → Int) (m : Nat) : (tabF n of m).length = n := by
  induction m with
  | zero => simp [tabF]
  | succ m ih => simp [tabF, ih]
theorem tabF_next {n k : Nat} (of : Nat → List Int → Int) (h : k < n) : tabF n of (n - k) = (tabF n of (n - (k + 1))).set k (of k (tabF n of (n - (k + 1)))) := by
  rw [show n - k = (n - (k + 1)) + 1 from by omega, tabF, show n - 1 - (n - (k + 1)) = k from by omega]
/-- What the closure of a table is asked. -/
def TellP (S : HP) (g : Nat) (lb : Array Value) (n : Nat) (of : Nat → List Int → Int) (k : Nat) : Prop :=
  ∀ (b : Nat) (W : World), SepI W (Row 3 1 (.slice (some ⟨b, 0, none⟩) n n) n (ints (tabF n of (n - (k + 1)))) * S) →
    Calls Tryd.prog g (#[.int .i64 k, .slice (some ⟨b, 0, none⟩) n n] ++ lb) W fun e w' => e = .returned (.int .i64 (of k (tabF n of (n - (k + 1))))) ∧
      Post W (Row 3 1 (.slice (some ⟨b, 0, none⟩) n n) n (ints (tabF n of (n - (k + 1)))) * S) w'

end Go.Proofs.YtnioipbofopocaaDoor
