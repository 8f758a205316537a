/- PanicFates, UnwoundBy, RecoveredBy by the program. Conditions: lengths within bounds. -/
import Derived.Test.YtobikkdnalnllaaZe
import Derived.Test.YtobikkdnalnllaaZg
namespace Go.Proofs.Ytobikkdnalnllaa
open Go.RowKit SL
attribute [local go_sem] cell_blk frozen_blk lt_blk cell_at frozen_row lt_row
set_option linter.unusedVariables false
set_option linter.unusedSimpArgs false
def A3Ok (S : HP) (l : List (Int × Int × Int)) (ok : Bool) (w : World) (e : Ending) (w' : World) : Prop := ∃ A c, e = two (.slice A l.length c) (.bool ok) ∧ Post w (Row 105 3 (.slice A l.length c) l.length (ints (flat3 l)) * S) w'
theorem A3Ok.of {S : HP} {l : List (Int × Int × Int)} {ok : Bool} {w w' : World} {v : Value} (h : Post w (Row 105 3 v l.length (c3s l) * S) w') : A3Ok S l ok w (two v (.bool ok)) w' := by
  obtain ⟨A, c, rfl, _⟩ := Row.form h.sep
  rw [c3s_flat] at h
  exact ⟨A, c, rfl, h⟩
theorem A3Ok.nil {S : HP} {ok : Bool} {w w' : World} {v : Value} (h : Post w (Row 105 3 v 0 [] * S) w') : A3Ok S [] ok w (two v (.bool ok)) w' := A3Ok.of (l := []) h
def fatA (l : List Pn) : List (Int × Int × Int) := l.map (fun p => (p.fn, p.va, p.fa))
def recA (m : Ma) : List (Int × Int) := m.recs.map (fun r => (r.pa, fnOf m r.ca))
end Go.Proofs.Ytobikkdnalnllaa
