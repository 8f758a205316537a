/- Pairs that a run tells: pairs by a closure's contract; ResultsOf. Conditions: lengths within bounds. -/
import Derived.Test.YtobikkdnalnllaaQk
import Derived.Test.YtobikkdnalnllaaQc
namespace Go.Proofs.Ytobikkdnalnllaa
open Go.RowKit SL
attribute [local go_sem] cell_blk frozen_blk lt_blk cell_at frozen_row lt_row
set_option linter.unusedVariables false
set_option linter.unusedSimpArgs false
def flat2 (l : List (Int × Int)) : List Int := l.flatMap (fun p => [p.1, p.2])
theorem cPr_flat (l : List (Int × Int)) : cPr l = ints (flat2 l) := by
  unfold cPr ints flat2
  rw [List.map_flatMap]
  rfl
def A2Ok (S : HP) (l : List (Int × Int)) (ok : Bool) (w : World) (e : Ending) (w' : World) : Prop := ∃ A c, e = two (.slice A l.length c) (.bool ok) ∧ Post w (Row 112 2 (.slice A l.length c) l.length (ints (flat2 l)) * S) w'
theorem A2Ok.of {S : HP} {l : List (Int × Int)} {ok : Bool} {w w' : World} {v : Value} (h : Post w (Row 112 2 v l.length (cPr l) * S) w') : A2Ok S l ok w (two v (.bool ok)) w' := by
  obtain ⟨A, c, rfl, _⟩ := Row.form h.sep
  rw [cPr_flat] at h
  exact ⟨A, c, rfl, h⟩
theorem A2Ok.nil {S : HP} {ok : Bool} {w w' : World} {v : Value} (h : Post w (Row 112 2 v 0 [] * S) w') : A2Ok S [] ok w (two v (.bool ok)) w' := A2Ok.of (l := []) h
end Go.Proofs.Ytobikkdnalnllaa
