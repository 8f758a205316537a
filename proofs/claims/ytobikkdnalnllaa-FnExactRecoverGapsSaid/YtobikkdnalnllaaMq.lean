/- The reference's machine: l2Simple. Conditions: registers and numbers within bounds. -/
import Derived.Test.YtobikkdnalnllaaMh
import Derived.Test.YtobikkdnalnllaaQe
import Derived.Test.YtobikkdnalnllaaMp
namespace Go.Proofs.Ytobikkdnalnllaa
open Go.RowKit SL
set_option linter.unusedVariables false

/-- A register's number. -/
def Reg (a : Int) : Prop := ∃ k : Nat, k < 4 ∧ a = k
theorem spec_l2Simple (S : HP) (w : World) (A : Option Addr) (n c0 : Nat) (vt : Value) (A2 : Option Addr) (n2 c2 : Nat) (A3 : Option Addr) (n3 c3 : Nat) (m : SM) (c : SF) (r : R4s) (hr : c.regs = r.l) [H : SepI w (Row 75 3 vt m.trace.length (cEvs m.trace) * S)] (ht : m.trace.length ≤ 1048576) (fuel : Int) (s : St)
    (hk : s.k = 1 ∨ s.k = 2 ∨ s.k = 3 ∨ s.k = 7 ∨ s.k = 9 ∨ s.k = 12 ∨ s.k = 13) (ha : Reg s.a) (hb : s.k = 2 → Reg s.b) (h16 : ∀ k : Nat, k < 4 → -32768 ≤ regAt r.l k ∧ regAt r.l k ≤ 32767) :
    Calls Try.prog 133 #[mV (.slice A n c0) vt (.slice A2 n2 c2) fuel m, fV c r (.slice A3 n3 c3), .agg #[.int .i64 s.k, .int .i64 s.a, .int .i64 s.b]] w (StepS S (.slice A n c0) (.slice A2 n2 c2) (.slice A3 n3 c3) fuel (simpleS m c s) w) := by
  obtain ⟨k, a, b⟩ := s
  obtain ⟨ka, hka, rfl⟩ := ha
  simp only at hk hb ⊢
  rcases hk with rfl | rfl | rfl | rfl | rfl | rfl | rfl
  · exact spec_simple1 S w A n c0 vt A2 n2 c2 A3 n3 c3 m c r hr ht fuel ka hka b
  · obtain ⟨kb, hkb, rfl⟩ := hb rfl
    exact spec_simple2 S w A n c0 vt A2 n2 c2 A3 n3 c3 m c r hr ht fuel ka hka kb kb hkb rfl h16
  · exact spec_simple3 S w A n c0 vt A2 n2 c2 A3 n3 c3 m c r hr ht fuel ka hka b
  · exact spec_simple7 S w A n c0 vt A2 n2 c2 A3 n3 c3 m c r hr ht fuel ka hka b
  · exact spec_simple9 S w A n c0 vt A2 n2 c2 A3 n3 c3 m c r hr ht fuel ka hka b
  · exact spec_simple12 S w A n c0 vt A2 n2 c2 A3 n3 c3 m c r hr ht fuel ka hka b
  · exact spec_simple13 S w A n c0 vt A2 n2 c2 A3 n3 c3 m c r hr ht fuel ka hka b
end Go.Proofs.Ytobikkdnalnllaa
