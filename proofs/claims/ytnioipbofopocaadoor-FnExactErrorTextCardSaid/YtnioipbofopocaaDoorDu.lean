/- Short forms of the laws of drawn regions. Conditions: none; plain lemmas. -/
import Derived.Test.YtnioipbofopocaaDoorDt
import Derived.Test.YtnioipbofopocaaDoorDs
import Derived.KernelRfl
namespace Go.Proofs.YtnioipbofopocaaDoor.SL
open Go.RowKit
set_option linter.unusedVariables false
section
variable {P : Program} {ops : Array Oper} {Q : Exit → Act → World → Prop} {md : Region.Mode} {S : World → Prop}
/-- All that is asked of an operation that is taken first, as one Bool. -/
def takeB (md : Region.Mode) (l : List Oper) (n b i : Nat) (listed : Array Bool) : Bool :=
  tailB md l.toArray n && headB md l.toArray n listed && (decide (i < n) && !decide (i = b)) && Region.free md l.toArray listed i && (Region.ready md l.toArray listed).contains i
theorem takeB_spec {md : Region.Mode} {l : List Oper} {n b i : Nat} {listed : Array Bool} (h : takeB md l n b i listed = true) :
    tailB md l.toArray n = true ∧ headB md l.toArray n listed = true ∧ (decide (i < n) && !decide (i = b)) = true ∧ Region.free md l.toArray listed i = true ∧ (Region.ready md l.toArray listed).contains i = true := by
  unfold takeB at h
  rw [Bool.and_eq_true, Bool.and_eq_true, Bool.and_eq_true, Bool.and_eq_true] at h
  exact ⟨h.1.1.1.1, h.1.1.1.2, h.1.1.2, h.1.2, h.2⟩
/-- An operation that looks at no memory, taken first. -/
theorem tkp {l : List Oper} {b n g : Nat} (i : Nat) {oi : Oper} {v : Value} {fuel : Nat} {listed : Array Bool} {a a' : Act} {w : World} (hS : upTo S (listed.getD b false) w)
    (h : wpAnyW P md l.toArray Q S b n g fuel (listed.setIfInBounds i true) a' w)
    (hi : l[i]? = some oi := by rfl) (hk : takeB md l n b i listed = true := by as_aux_lemma => kernel_rfl)
    (hw : Region.wanted oi (yielded l.toArray a.tmps) = true := by rfl)
    (hz : ∀ w, True → (execOp a.eval oi).run P w = .ok (.value v) w := by intro w hSw; go_simp; try with_reducible rfl)
    (ha : a.put oi.dst v = a' := by simp only [Act.put, List.setIfInBounds_toArray, List.set_cons_zero, List.set_cons_succ]; rfl)
    (hQ : ∀ c a w, Q (.panic c) (a.put oi.dst v) w → Q (.panic c) a w := by exact fun _ _ _ h => h) : wpAnyW P md l.toArray Q S b n g (fuel + 1) listed a w := by
  obtain ⟨h1, h2, h3, h4, h5⟩ := takeB_spec hk
  subst ha
  exact wpAnyW_takeL (i := i) (v := v) (fun _ => True) hi h1 h2 h3 h4 h5 (fun _ _ => trivial) (.inr (.inl fun _ => trivial)) hQ (.inl ⟨hw, hz⟩) hS h
/-- A load, taken first. -/
theorem tkl {l : List Oper} {b n g : Nat} (i : Nat) {oi : Oper} {v : Value} {fuel : Nat} {listed : Array Bool} {a a' : Act} {w : World} (hS : upTo S (listed.getD b false) w)
    (h : wpAnyW P md l.toArray Q S b n g fuel (listed.setIfInBounds i true) a' w)
    (hi : l[i]? = some oi := by rfl) (hk : (takeB md l n b i listed && (Region.waitsFor md l.toArray b i || decide (l.toArray.size ≤ b))) = true := by as_aux_lemma => kernel_rfl)
    (hw : Region.wanted oi (yielded l.toArray a.tmps) = true := by rfl)
    (hz : ∀ w, S w → (execOp a.eval oi).run P w = .ok (.value v) w := by intro w hSw; (try dsimp only at hSw); go_simp; try with_reducible rfl)
    (ha : a.put oi.dst v = a' := by simp only [Act.put, List.setIfInBounds_toArray, List.set_cons_zero, List.set_cons_succ]; rfl)
    (hQ : ∀ c a w, Q (.panic c) (a.put oi.dst v) w → Q (.panic c) a w := by exact fun _ _ _ h => h) : wpAnyW P md l.toArray Q S b n g (fuel + 1) listed a w := by
  rw [Bool.and_eq_true, Bool.or_eq_true] at hk
  obtain ⟨h1, h2, h3, h4, h5⟩ := takeB_spec hk.1
  subst ha
  exact wpAnyW_takeL (i := i) (v := v) S hi h1 h2 h3 h4 h5 (fun _ h => h) (hk.2.imp id .inr) hQ (.inl ⟨hw, hz⟩) hS h
theorem Row.as {w : World} {e : TypeId} {size n n' : Nat} {v : Value} {cs cs' : List Value} {F : HP} (H : SepI w (Row e size v n cs * F)) (hn : n = n') (hc : cs = cs') : SepI w (Row e size v n' cs' * F) := by subst hn hc; exact H
end
end Go.Proofs.YtnioipbofopocaaDoor.SL
