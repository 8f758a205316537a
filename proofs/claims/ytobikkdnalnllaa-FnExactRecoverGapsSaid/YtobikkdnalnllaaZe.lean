/- What is told of panics: ofPanics by a closure's contract. Conditions: lengths within bounds. -/
import Derived.Test.YtobikkdnalnllaaZb
import Derived.Test.YtobikkdnalnllaaQk
namespace Go.Proofs.Ytobikkdnalnllaa
open Go.RowKit SL
attribute [local go_sem] cell_blk frozen_blk lt_blk cell_at frozen_row lt_row
set_option linter.unusedVariables false
set_option linter.unusedSimpArgs false
theorem cPvs_at {l : List Pv} {k : Nat} {x : Pv} (h : l[k]? = some x) : (cPvs l)[k * 9]? = some (.int .i64 x.p.ca) ∧ (cPvs l)[k * 9 + 1]? = some (.int .i64 x.p.fn) ∧ (cPvs l)[k * 9 + 2]? = some (.int .i64 x.p.va) ∧ (cPvs l)[k * 9 + 3]? = some (.int .i64 x.p.de) ∧ (cPvs l)[k * 9 + 4]? = some (.int .i64 x.p.fa) ∧ (cPvs l)[k * 9 + 5]? = some (.int .i64 x.p.by_) ∧ (cPvs l)[k * 9 + 6]? = some (.int .i64 x.p.la) ∧ (cPvs l)[k * 9 + 7]? = some (.bool x.p.ag) ∧ (cPvs l)[k * 9 + 8]? = some (x.u) :=
  ⟨flat_get (f := cPv) (k := 9) (fun _ => rfl) h 0 (by omega), flat_get (f := cPv) (k := 9) (fun _ => rfl) h 1 (by omega), flat_get (f := cPv) (k := 9) (fun _ => rfl) h 2 (by omega), flat_get (f := cPv) (k := 9) (fun _ => rfl) h 3 (by omega), flat_get (f := cPv) (k := 9) (fun _ => rfl) h 4 (by omega), flat_get (f := cPv) (k := 9) (fun _ => rfl) h 5 (by omega), flat_get (f := cPv) (k := 9) (fun _ => rfl) h 6 (by omega), flat_get (f := cPv) (k := 9) (fun _ => rfl) h 7 (by omega), flat_get (f := cPv) (k := 9) (fun _ => rfl) h 8 (by omega)⟩
end Go.Proofs.Ytobikkdnalnllaa
