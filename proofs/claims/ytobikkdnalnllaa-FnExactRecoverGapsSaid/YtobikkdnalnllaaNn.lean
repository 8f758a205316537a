/- The reference's machine: what holds in a call's body and behind it. Conditions: none; plain lemmas. -/
import Derived.Test.YtobikkdnalnllaaNm
import Derived.Test.YtobikkdnalnllaaQg
namespace Go.Proofs.Ytobikkdnalnllaa
open Go.RowKit SL
set_option linter.unusedVariables false
set_option linter.unusedSimpArgs false

theorem simple_keeps2 (m : SM) (c : SF) (s : St) : (simpleS m c s).2.f = c.f ∧ (simpleS m c s).2.depth = c.depth := by
  unfold simpleS
  repeat' split
  all_goals first | exact ⟨rfl, rfl⟩ | (dsimp only; split <;> exact ⟨rfl, rfl⟩)
theorem make_keeps (call : CallS) (m : SM) (c : SF) (at_ : Int) (s : St) : (makeS call m c at_ s).2.1.f = c.f ∧ (makeS call m c at_ s).2.1.depth = c.depth := by
  unfold makeS
  by_cases h4 : s.k = 4
  · rw [if_pos h4]
    unfold innerS innerR
    repeat' split
    all_goals exact ⟨rfl, rfl⟩
  rw [if_neg h4]
  repeat' split
  all_goals first | exact ⟨rfl, rfl⟩ | exact simple_keeps2 m c s
theorem last_keeps (call : CallS) (m : SM) (c : SF) : (lastS call m c).2.f = c.f ∧ (lastS call m c).2.depth = c.depth := by
  unfold lastS
  simp only
  repeat' split
  all_goals exact ⟨rfl, rfl⟩
/-- What holds of a call that begins. -/
structure PreD (L : List (List St)) (fuel : Nat) (dep : Int) (m : SM) (c : SF) : Prop where
  sp : m.spent = false
  sm : SmG fuel m
  sf : SfG L c
  tr : (m.trace.length : Int) ≤ 3 * m.made + 2 * dep
/-- In the body of a call. -/
structure InLoop (L : List (List St)) (fuel : Nat) (call : CallS) (R : SM × SF) (m0 : SM) (gk : Nat) (m : SM) (c : SF) (at_ : Int) : Prop where
  sp : m.spent = false
  sm : SmG fuel m
  sf : SfG L c
  wt : Went m0 0 m c.defers.length 1
  at1 : -1 ≤ at_
  at2 : at_ ≤ 1048576
  lt : fuel < gk + m.made
  eq : tailS call (loopS call L fuel gk m c at_) = R
/-- Behind a step. -/
def restT (call : CallS) (n : Nat) (m : SM) (c : SF) : SM × SF := if (restS call n m c).1.spent then restS call n m c else (endS (restS call n m c).1 (restS call n m c).2, (restS call n m c).2)
structure InRest (L : List (List St)) (fuel : Nat) (call : CallS) (R : SM × SF) (m0 : SM) (m : SM) (c : SF) : Prop where
  sp : m.spent = false
  sm : SmG fuel m
  sf : SfG L c
  wt : Went m0 0 m c.defers.length 1
  eq : restT call c.defers.length m c = R
theorem InLoop.start {L : List (List St)} {fuel : Nat} {call : CallS} {m : SM} {c : SF} {dep : Int} (h : PreD L fuel dep m c) (hd : c.defers = []) : InLoop L fuel call (tailS call (loopS call L fuel (fuel + 1) (startS m c) { c with kind := 1 } 0)) m (fuel + 1) (startS m c) { c with kind := 1 } 0 :=
  ⟨h.sp, (start_went (c := c) h.sm 0).1, ⟨h.sf.len, h.sf.regs, h.sf.value, h.sf.pa, h.sf.outer, h.sf.defers, h.sf.fn⟩, by have := (start_went (c := c) h.sm 0).2; show Went _ 0 _ c.defers.length 1; rw [hd]; exact this, by omega, by omega, by omega, rfl⟩
theorem InLoop.stuck {L : List (List St)} {fuel : Nat} {call : CallS} {R : SM × SF} {m0 : SM} {gk : Nat} {m : SM} {c : SF} {at_ : Int} {s : St} (h : InLoop L fuel call R m0 gk m c at_) (ha : 0 ≤ at_) (hs : (bodyOf L c.f)[at_.toNat]? = some s) (hm : m.made = fuel) : R = ({ m with spent := true }, c) := by
  have hg := h.lt
  obtain ⟨k, rfl⟩ : ∃ k, gk = k + 1 := ⟨gk - 1, by omega⟩
  rw [← h.eq, loopS, if_neg (by omega), hs]
  simp only
  rw [if_pos hm]
  rfl
theorem InLoop.leave {L : List (List St)} {fuel : Nat} {call : CallS} {R : SM × SF} {m0 : SM} {gk : Nat} {m : SM} {c : SF} {at_ : Int} (h : InLoop L fuel call R m0 gk m c at_) (ha : at_ < 0 ∨ (bodyOf L c.f)[at_.toNat]? = none) : InRest L fuel call R m0 m c := by
  refine ⟨h.sp, h.sm, h.sf, h.wt, ?_⟩
  have hg := h.lt; have := h.sm.made
  obtain ⟨k, rfl⟩ : ∃ k, gk = k + 1 := ⟨gk - 1, by omega⟩
  have e : loopS call L fuel (k + 1) m c at_ = (m, c) := by
    rw [loopS]
    by_cases h0 : at_ < 0
    · rw [if_pos h0]
    · rw [if_neg h0, ha.resolve_left h0]
  rw [← h.eq, e]
  unfold tailS restT
  simp only
  rw [h.sp, if_neg Bool.false_ne_true]
theorem InLoop.round {L : List (List St)} (hL : ProgOk L) {fuel : Nat} {call : CallS} (hc : CallG L fuel call) {R : SM × SF} {m0 : SM} {gk : Nat} {m : SM} {c : SF} {at_ : Int} {s : St} (h : InLoop L fuel call R m0 gk m c at_) (ha : 0 ≤ at_) (hs : (bodyOf L c.f)[at_.toNat]? = some s) (hb : (bodyOf L c.f).length ≤ 1048576) (hm : m.made ≠ fuel)
    {q : SM × SF × Int} (hq : makeS call { m with made := m.made + 1, seen := m.seen ++ [(c.f, at_)] } c at_ s = q) : (q.1.spent = true → R = (q.1, q.2.1)) ∧ (q.1.spent = false → ∃ k, k < gk ∧ InLoop L fuel call R m0 k q.1 q.2.1 q.2.2) := by
  have hg := h.lt; have hf := h.sm.made
  obtain ⟨k, rfl⟩ : ∃ k, gk = k + 1 := ⟨gk - 1, by omega⟩
  have hw := make_went (at_ := at_) hc ha (hL _ _ (List.mem_of_getElem? hs)) (h.sm.made1 hm (c.f, at_)) h.sf
  have e : loopS call L fuel (k + 1) m c at_ = if q.1.spent then (q.1, q.2.1) else loopS call L fuel k q.1 q.2.1 q.2.2 := by
    rw [loopS, if_neg (by omega), hs]
    simp only
    rw [if_neg hm, hq]
  rw [hq] at hw
  obtain ⟨g1, g2, g3, g4, g5⟩ := hw
  obtain ⟨w1, w2⟩ := Went.made1 m _ g3
  have hlt : at_.toNat < (bodyOf L c.f).length := (List.getElem?_eq_some_iff.1 hs).1
  have heq := h.eq
  rw [e] at heq
  refine ⟨fun hsp => ?_, fun hsp => ⟨k, by omega, hsp, g1, g2, h.wt.trans w1, g4, by omega, by omega, ?_⟩⟩
  · rw [hsp, if_pos rfl] at heq
    rw [← heq]; unfold tailS; rw [if_pos hsp]
  · rw [hsp, if_neg Bool.false_ne_true] at heq
    exact heq
theorem InRest.round {L : List (List St)} {fuel : Nat} {call : CallS} (hc : CallG L fuel call) {R : SM × SF} {m0 : SM} {m : SM} {c : SF} (h : InRest L fuel call R m0 m c) {k : Nat} (hk : c.defers.length = k + 1)
    {q : SM × SF} (hq : lastS call m c = q) : (q.1.spent = true → R = q) ∧ (q.1.spent = false → q.2.defers.length = k ∧ InRest L fuel call R m0 q.1 q.2) := by
  obtain ⟨g1, g2, g3, g4⟩ := last_went hc (by omega) h.sm h.sf
  rw [hq] at g1 g2 g3 g4
  have heq := h.eq
  rw [hk] at heq
  unfold restT at heq
  have e : restS call (k + 1) m c = if q.1.spent then q else restS call k q.1 q.2 := by
    rw [restS, hq]
  rw [e] at heq
  refine ⟨fun hsp => ?_, fun hsp => ⟨by omega, hsp, g1, g2, h.wt.trans g3, ?_⟩⟩
  · rw [hsp] at heq; simpa [hsp] using heq.symm
  · rw [hsp, if_neg Bool.false_ne_true] at heq
    unfold restT
    rw [show q.2.defers.length = k from by omega]; exact heq
theorem InRest.done {L : List (List St)} {fuel : Nat} {call : CallS} {R : SM × SF} {m0 : SM} {m : SM} {c : SF} (h : InRest L fuel call R m0 m c) (hk : c.defers.length = 0) : R = (endS m c, c) := by
  rw [← h.eq, hk]
  unfold restT restS
  simp only
  rw [h.sp, if_neg Bool.false_ne_true]
theorem PreD.inner {L : List (List St)} {fuel : Nat} {call : CallS} {R : SM × SF} {m0 : SM} {gk : Nat} {m : SM} {c : SF} {at_ dep : Int} {s : St} (h : InLoop L fuel call R m0 gk m c at_) (h0 : (m0.trace.length : Int) ≤ 3 * m0.made + 2 * dep) (hm : m.made ≠ fuel) (hs : StepOk L.length s) (k4 : s.k = 4) : PreD L fuel (dep + 1) { m with made := m.made + 1, seen := m.seen ++ [(c.f, at_)] } (freshIn c s) :=
  ⟨h.sp, h.sm.made1 hm _, fresh_G hs k4 h.sf, by have := h.wt.grow; show (m.trace.length : Int) ≤ 3 * (m.made + 1 : Nat) + 2 * (dep + 1); omega⟩
theorem PreD.last {L : List (List St)} {fuel : Nat} {call : CallS} {R : SM × SF} {m0 : SM} {m : SM} {c : SF} {dep : Int} (h : InRest L fuel call R m0 m c) (h0 : (m0.trace.length : Int) ≤ 3 * m0.made + 2 * dep) (hd : 0 < c.defers.length) : PreD L fuel (dep + 1) m (freshLast c) :=
  ⟨h.sp, h.sm, freshLast_G h.sf hd, by have := h.wt.grow; omega⟩
theorem StepG.of {nf : Nat} {s : St} {r : R4s} (h : StepOk nf s) (hr : ∀ x ∈ r.l, n16 x) : StepG r s := by
  obtain ⟨a1, a2, h1, h2, h5, h11, h3⟩ := h
  have R : ∀ x : Int, 0 ≤ x → x ≤ 3 → Reg x := fun x h0 h1 => ⟨x.toNat, by omega, by omega⟩
  refine ⟨⟨a1, a2⟩, fun h => ?_, fun h => ?_, fun i hi => regAt_ok hr _⟩
  · by_cases k1 : s.k = 1
    · exact R _ (h1 k1).1 (h1 k1).2.1
    by_cases k2 : s.k = 2
    · exact R _ (h2 k2).1 (h2 k2).2.1
    · have := h3 (by omega); exact R _ this.1 this.2
  · rcases h with h | h | h | h
    · exact R _ (h2 h).2.2.1 (h2 h).2.2.2
    · exact R _ (h5 (.inl h)).2.2.1 (h5 (.inl h)).2.2.2
    · exact R _ (h5 (.inr h)).2.2.1 (h5 (.inr h)).2.2.2
    · exact R _ (h11 h).2.2.1 (h11 h).2.2.2
end Go.Proofs.Ytobikkdnalnllaa
