/- What the listed tables of the library give the walks. Conditions: the row's own. -/
import Derived.Test.YtnioipbofopocaaDoorRows
import Derived.Test.YtnioipbofopocaaDoorTa
import Derived.WalkKit
import Derived.ProofKit
import Derived.OpenShut
import Derived.ShutString
import Derived.ChangeOld
import Derived.DataReads
import Derived.SizedLaws
import Derived.LaidMore
import Derived.Lib.LaidTab
import Derived.Stop.LaidErr
import Derived.LaidByTextLater
import Derived.Stop.Joined
namespace Go.Proofs.YtnioipbofopocaaDoor
open Go.RowKit SL Go.ChangeShapes Go.WideShapes Go.ChangeAt
set_option linter.unusedVariables false
set_option linter.unusedSimpArgs false
theorem below_of_post {W W' : World} (h : Post W (old W) W') : Below W.heap.size W W' := by
  have e : ExtI W W' := h.ext W
  refine ⟨e.os, e.tape, e.output, e.size, fun k hk => ?_⟩
  obtain ⟨p, hp, q⟩ := h.sep.out
  have h1 := hp k hk
  rw [Array.getElem?_eq_getElem hk] at h1 ⊢
  exact q k _ h1
theorem int_bounds {a : Int} (h : (Lit.int .i64 a).wf = true) : -9223372036854775808 ≤ a ∧ a ≤ 9223372036854775807 := by
  have h' : IntKind.i64.min ≤ a ∧ a ≤ 9223372036854775807 := by simpa [Lit.wf] using h
  exact h'
theorem gPow : Tryd.prog.globalNamed "internal/strconv.uint64pow10" = some 3 := by kernel_rfl
theorem tPow : (Tryd.prog.globals[3]?).map (·.type) = some 159 := by kernel_rfl
theorem cPow : Tryd.prog.cellsOf 141 = 1 := by kernel_rfl
theorem nPow : Tryd.prog.cellsOf 159 = 20 := by kernel_rfl
theorem powData : (Rows.laid_internal_strconv_uint64pow10 : DataW Unit) = Lib.tabData .u64 Lib.pow10Tab := by rfl
/-- The powers of ten, at the head of what is left of the list. -/
theorem tab_of_met {W : World} {r : List (String × DataW Unit)} (h : laidMet Tryd.prog (("internal/strconv.uint64pow10", Rows.laid_internal_strconv_uint64pow10) :: r) W) : TabI (old W) :=
  TabI.of_old (Lib.tabIs_of_head gPow tPow Tryd.underlying159 Tryd.underlying141 cPow nPow (by rw [powData] at h; exact h))
end Go.Proofs.YtnioipbofopocaaDoor
