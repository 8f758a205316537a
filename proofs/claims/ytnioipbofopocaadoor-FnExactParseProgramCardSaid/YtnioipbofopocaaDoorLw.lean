/- What the laws over programs share. -/
import Derived.Test.YtnioipbofopocaaDoorIr
import Derived.Deep.RegionWith
namespace Go.Proofs.YtnioipbofopocaaDoor
open Go.RowKit SL
attribute [local go_sem] cell_blk frozen_blk lt_blk cell_at frozen_row lt_row
set_option linter.unusedVariables false
set_option linter.unusedSimpArgs false

theorem le_sum_of : ∀ {l : List Nat} {n : Nat}, n ∈ l → n ≤ l.sum
  | [], n, h => by cases h
  | m :: l, n, h => by
    rcases List.mem_cons.1 h with rfl | h
    · simp
    · have := le_sum_of h; simp; omega
theorem SzOk.small {bs : List Bd} {r : Int} (h : 0 ≤ r ∧ r + bs.length + ((bs.map fun x => x.l.length).sum : Nat) = 1048576) : bs.length ≤ 1048576 ∧ ∀ x ∈ bs, x.l.length ≤ 1048576 := by
  refine ⟨by omega, fun x hx => ?_⟩
  have : x.l.length ≤ (bs.map fun x => x.l.length).sum := le_sum_of (List.mem_map.2 ⟨x, hx, rfl⟩)
  omega
instance Rd.of_OwnP (A : Option Addr) (n c : Nat) (bs : List Bd) (F : HP) : Rd (OwnP (.slice A n c) bs * F) A (cBds bs) := ⟨fun w H => by
  by_cases hn : n = bs.length
  · subst hn
    have H1 : SepI w (Row 76 1 (.slice A bs.length c) bs.length (cBds bs) * (stars (bs.map OwnB) * F)) := by rw [← star_assoc]; exact H
    exact (Rd.of_row 76 1 A bs.length c (cBds bs) (stars (bs.map OwnB) * F)).out w H1
  · have H1 : SepI w (Row 76 1 (.slice A n c) bs.length (cBds bs) * (stars (bs.map OwnB) * F)) := by rw [← star_assoc]; exact H
    rcases Row.open H1 with ⟨hv, hl, _⟩ | ⟨g, cap, cur, hv, _⟩
    · injection hv with _ h2 _; omega
    · injection hv with _ h2 _; omega⟩
theorem Bodies.of_OwnP {v : Value} {bs : List Bd} (F : HP) (h : ∀ x ∈ bs, x.l.length ≤ 1048576) (hn : bs.length ≤ 1048576) : Bodies (OwnP v bs * F) bs := ⟨fun x hx => ⟨fun w H => by
  obtain ⟨R, hR⟩ := stars_pick (List.mem_map.2 ⟨x, hx, rfl⟩ : OwnB x ∈ bs.map OwnB)
  have H1 : SepI w (OwnB x * (Row 76 1 v bs.length (cBds bs) * (R * F))) := by
    refine SepI.cast H ?_
    unfold OwnP
    rw [hR]
    ac_rfl
  exact (Rd.of_row 78 3 x.p x.l.length x.c (cSts x.l) _).out w H1⟩, h, hn⟩
theorem small_of_map {bs bs' : List Bd} (h : bs'.map (·.l) = bs.map (·.l)) (hs : ∀ x ∈ bs, x.l.length ≤ 1048576) : ∀ x ∈ bs', x.l.length ≤ 1048576 := fun x hx => by
  have : x.l ∈ bs.map (·.l) := by rw [← h]; exact List.mem_map.2 ⟨x, hx, rfl⟩
  obtain ⟨y, hy, e⟩ := List.mem_map.1 this
  rw [← e]; exact hs y hy
theorem len_of_map {bs bs' : List Bd} (h : bs'.map (·.l) = bs.map (·.l)) : bs'.length = bs.length := by simpa using congrArg List.length h

theorem Bodies.own {v : Value} {bs bs' : List Bd} (h : bs'.map (·.l) = bs.map (·.l)) (hs : bs.length ≤ 1048576 ∧ ∀ x ∈ bs, x.l.length ≤ 1048576) : ∀ F, Bodies (OwnP v bs' * F) bs' := fun F =>
  Bodies.of_OwnP F (small_of_map h hs.2) (by rw [len_of_map h]; exact hs.1)
/-- The argument as it is read. -/
structure ArgP (S : HP) (A : Option Addr) (bs : List Bd) : Prop where
  rd : Rd S A (cBds bs)
  inner : ∀ x ∈ bs, Rd S x.p (cSts x.l)
  max : ∀ x ∈ bs, x.l.length ≤ maxLen
  n : bs.length ≤ maxLen

end Go.Proofs.YtnioipbofopocaaDoor
