/- Calls as they are told: compared, marked, held. Conditions: lengths within bounds. -/
import Derived.Test.YtobikkdnalnllaaQb
import Derived.Test.YtobikkdnalnllaaQa
import Derived.StillTailTactics
namespace Go.Proofs.Ytobikkdnalnllaa
open Go.RowKit SL
attribute [local go_sem] cell_blk frozen_blk lt_blk cell_at frozen_row lt_row
set_option linter.unusedVariables false
set_option linter.unusedSimpArgs false
def cC5 (c : C5) : List Value := [.int .i64 c.fn, .int .i64 c.up, .bool c.df, .int .i64 c.en, .int .i64 c.va]
def cC5s (l : List C5) : List Value := l.flatMap cC5
theorem cC5s_append (l m : List C5) : cC5s (l ++ m) = cC5s l ++ cC5s m := by simp [cC5s]
theorem cC5s_get {l : List C5} {k : Nat} {x : C5} (h : l[k]? = some x) : (cC5s l)[k * 5]? = some (.int .i64 x.fn) ∧ (cC5s l)[k * 5 + 1]? = some (.int .i64 x.up) ∧ (cC5s l)[k * 5 + 2]? = some (.bool x.df) ∧ (cC5s l)[k * 5 + 3]? = some (.int .i64 x.en) ∧ (cC5s l)[k * 5 + 4]? = some (.int .i64 x.va) :=
  ⟨flat_get (f := cC5) (k := 5) (fun _ => rfl) h 0 (by omega), flat_get (f := cC5) (k := 5) (fun _ => rfl) h 1 (by omega), flat_get (f := cC5) (k := 5) (fun _ => rfl) h 2 (by omega), flat_get (f := cC5) (k := 5) (fun _ => rfl) h 3 (by omega), flat_get (f := cC5) (k := 5) (fun _ => rfl) h 4 (by omega)⟩
theorem info_c5 : (Try.prog.info? 85).map (fun i => (i.zero, i.size, i.bytes)) = some (some (.agg #[.int .i64 0, .int .i64 0, .bool false, .int .i64 0, .int .i64 0]), 5, 40) := by kernel_rfl
end Go.Proofs.Ytobikkdnalnllaa
