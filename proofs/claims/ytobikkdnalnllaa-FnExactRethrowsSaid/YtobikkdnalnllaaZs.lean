/- OpenPanics, by the program and by the reference. Conditions: lengths within bounds. -/
import Derived.Test.YtobikkdnalnllaaZq
import Derived.Test.YtobikkdnalnllaaDl
namespace Go.Proofs.Ytobikkdnalnllaa
open Go.RowKit SL
attribute [local go_sem] cell_blk frozen_blk lt_blk cell_at frozen_row lt_row
set_option linter.unusedVariables false
set_option linter.unusedSimpArgs false
def IntA (S : HP) (a : Int × Bool) (w : World) (e : Ending) (w' : World) : Prop := e = two (.int .i64 a.1) (.bool a.2) ∧ Post w S w'
end Go.Proofs.Ytobikkdnalnllaa
