/- What the trace of a run tells of its panics. Conditions: none; plain lemmas. -/
import Derived.Test.YtobikkdnalnllaaZf
namespace Go.Proofs.Ytobikkdnalnllaa
open Go.RowKit SL
/-- What the whole trace of a run tells of its panics. -/
theorem facts4 {R : Run} (F : Facts R) : ∃ r, read4 R.m.trace = some r ∧ r.panics = fatA R.m.panics ∧ r.depths = R.m.panics.map (·.de) ∧ r.unwound = R.m.panics.map (·.un) ∧ r.recovers = recA R.m ∧ r.replaced = R.m.panics.map (·.by_) ∧ r.before = R.m.panics.map (·.la) := by
  obtain ⟨on, h⟩ := F.r4
  exact ⟨_, h, rfl, rfl, rfl, rfl, rfl, rfl⟩
end Go.Proofs.Ytobikkdnalnllaa
