/- A region that draws its order: the loads are taken first, the calls come in any order, and the last operations, which wait for all others, come in theirs. Conditions: none; plain lemmas. -/
import Derived.Test.YtnioipbofopocaaDoorSt
import Derived.StillTail
import Derived.OrdersHeld
import Derived.Deep.RegionWith
import Derived.Deep.RegionLaw
import Derived.Deep.RegionHeld3
namespace Go.Proofs.YtnioipbofopocaaDoor.SL
open Go.RowKit
set_option linter.unusedVariables false
section
variable {P : Program} {ops : Array Oper} {Q : Exit → Act → World → Prop} {md : Region.Mode} {S : World → Prop}
/-- Whatever order is picked for the head (the operations below n), S holds behind each; behind it the others come. -/
def wpAnyT (P : Program) (md : Region.Mode) (ops : Array Oper) (Q : Exit → Act → World → Prop) (S : World → Prop) (n g : Nat) : Nat → Array Bool → Act → World → Prop
  | 0, listed, a, w => (∀ j ∈ Region.ready md ops listed, n ≤ j) ∧ wpAny P md ops Q g listed a w
  | fuel + 1, listed, a, w =>
    Region.ready md ops listed ≠ [] ∧ ∀ i ∈ Region.ready md ops listed, i < n ∧ wpOp P ops Q i (fun a' w' => S w' ∧ wpAnyT P md ops Q S n g fuel (listed.setIfInBounds i true) a' w') a w
theorem wpAny_of_T {n g : Nat} : ∀ (fuel : Nat) (listed : Array Bool) (a : Act) (w : World), wpAnyT P md ops Q S n g fuel listed a w → wpAny P md ops Q (fuel + g) listed a w
  | 0, _, _, _, h => by rw [Nat.zero_add]; exact h.2
  | fuel + 1, _, _, _, h => by
    rw [show fuel + 1 + g = (fuel + g) + 1 by omega]
    exact ⟨fun h0 => absurd h0 h.1, fun i hi => wpOp_mono (fun a' w' h' => wpAny_of_T fuel _ a' w' h'.2) (h.2 i hi).2⟩
theorem wpAnyT_first {n g i : Nat} {oi : Oper} {v : Value} (hi : ops[i]? = some oi) (hsel : ∀ (j : Nat) (o : Oper) cs b, ops[j]? = some o → o.op ≠ .select cs b)
    (hs : Region.sinkB md ops n = true) (hc : Region.chainB md ops n = true) (hn : n < ops.size) (hin : i < n)
    (hQ : ∀ c a w, Q (.panic c) (a.put oi.dst v) w → Q (.panic c) a w) :
    ∀ (fuel : Nat) (listed : Array Bool) (a : Act) (w : World), HeadInv md ops n listed →
      (∀ j oj, ops[j]? = some oj → j ≠ i → listed.getD j true = false → (∀ e ∈ oj.after, Region.binds md e = true → e.on ≠ i) → oi.apart ops oj = true) →
      i ∈ Region.ready md ops listed → YieldsIf P ops S oi v a → S w →
      wpAnyT P md ops Q S n g fuel (listed.setIfInBounds i true) (a.put oi.dst v) w → wpAnyT P md ops Q S n g (fuel + 1) listed a w := by
  intro fuel
  induction fuel with
  | zero =>
    intro listed a w inv _ hr hy hS H
    have hun := (mem_ready.1 hr).1
    refine ⟨fun h => (by rw [h] at hr; cases hr), fun j hj => ?_⟩
    have hjn : j < n := by
      rcases Nat.lt_or_ge j n with h | h
      · exact h
      · exact absurd hj (tail_waits hs hc hn inv _ i rfl hin hun j h)
    refine ⟨hjn, ?_⟩
    by_cases hji : j = i
    · subst hji; exact hy.wpOp hi hS ⟨hS, H⟩
    · have := H.1 j (ready_mono hj hji)
      omega
  | succ fuel ih =>
    intro listed a w inv hfree hr hy hS H
    have hun := (mem_ready.1 hr).1
    refine ⟨fun h => (by rw [h] at hr; cases hr), fun j hj => ?_⟩
    have hjn : j < n := by
      rcases Nat.lt_or_ge j n with h | h
      · exact h
      · exact absurd hj (tail_waits hs hc hn inv _ i rfl hin hun j h)
    refine ⟨hjn, ?_⟩
    by_cases hji : j = i
    · subst hji; exact hy.wpOp hi hS ⟨hS, H⟩
    · have h1 := (H.2 j (ready_mono hj hji)).2
      obtain ⟨hjun, oj, hoj, hall⟩ := mem_ready.1 hj
      have hnot : ∀ e ∈ oj.after, Region.binds md e = true → e.on ≠ i := fun e he hb heq => by
        have h1 := hall e he hb
        rw [heq, getD_both hun] at h1
        cases h1
      have h2 := wpOp_putIf hoj (hfree j oj hoj hji hjun hnot) (fun cs b => hsel i oi cs b hi) (fun cs b => hsel j oj cs b hoj) hQ hy h1
      have hfree' : ∀ k ok, ops[k]? = some ok → k ≠ i → (listed.setIfInBounds j true).getD k true = false →
          (∀ e ∈ ok.after, Region.binds md e = true → e.on ≠ i) → oi.apart ops ok = true := fun k ok hk hki hun hno => by
        refine hfree k ok hk hki ?_ hno
        by_cases hjk : j = k
        · subst hjk; exact hjun
        · rw [getD_set_ne true hjk] at hun; exact hun
      refine wpOp_mono (fun a' w' h3 => ⟨h3.2.1, ih (listed.setIfInBounds j true) a' w' (inv.set hj hjn) hfree' (ready_mono hr (Ne.symm hji)) h3.1 h3.2.1 ?_⟩) h2
      rw [Array.setIfInBounds_comm _ _ hji]
      exact h3.2.2
/-- Heads that are listed so far, as a Bool. -/
def headB (md : Region.Mode) (ops : Array Oper) (n : Nat) (listed : Array Bool) : Bool :=
  decide (listed.size = ops.size) && ((List.range ops.size).all fun j => match ops[j]? with
    | some oj => !listed.getD j true || oj.after.all fun e => !Region.binds md e || listed.getD e.on false
    | none => true) && ((List.range ops.size).all fun t => decide (t < n) || !listed.getD t true)
theorem headB_inv {n : Nat} {listed : Array Bool} (h : headB md ops n listed = true) : HeadInv md ops n listed := by
  unfold headB at h
  simp only [Bool.and_eq_true, decide_eq_true_eq, List.all_eq_true, List.mem_range] at h
  obtain ⟨⟨h1, h2⟩, h3⟩ := h
  refine ⟨h1, fun j oj hj hl e he hb => ?_, fun t ht htl => ?_⟩
  · have hjs := (Array.getElem?_eq_some_iff.1 hj).1
    have := h2 j hjs
    rw [hj] at this
    simp only [Bool.or_eq_true, Bool.not_eq_true'] at this
    have hlt : listed.getD j true = true := by
      cases hq : listed.getD j true with
      | true => rfl
      | false => rw [getD_both hq] at hl; cases hl
    rcases this with h | h
    · rw [hlt] at h; cases h
    · rw [Array.all_eq_true'] at h
      have := h e he
      rw [hb] at this
      simpa using this
  · have := h3 t htl
    simp only [Bool.or_eq_true, decide_eq_true_eq, Bool.not_eq_true'] at this
    rcases this with h | h
    · omega
    · exact h
/-- The region's form, as one Bool. -/
def tailB (md : Region.Mode) (ops : Array Oper) (n : Nat) : Bool := Region.noSelect ops && decide (n < ops.size) && Region.sinkB md ops n && Region.chainB md ops n
theorem wpAnyT_take {n g i : Nat} {oi : Oper} {v : Value} {fuel : Nat} {listed : Array Bool} {a : Act} {w : World} (hi : ops[i]? = some oi)
    (hb : tailB md ops n = true) (hd : headB md ops n listed = true) (hin : decide (i < n) = true) (hf : Region.free md ops listed i = true) (hr : (Region.ready md ops listed).contains i = true)
    (hQ : ∀ c a w, Q (.panic c) (a.put oi.dst v) w → Q (.panic c) a w) (hy : YieldsIf P ops S oi v a) (hS : S w)
    (h : wpAnyT P md ops Q S n g fuel (listed.setIfInBounds i true) (a.put oi.dst v) w) : wpAnyT P md ops Q S n g (fuel + 1) listed a w := by
  unfold tailB at hb
  simp only [Bool.and_eq_true, decide_eq_true_eq] at hb
  exact wpAnyT_first hi (Region.noSelect_spec hb.1.1.1) hb.1.2 hb.2 hb.1.1.2 (of_decide_eq_true hin) hQ fuel listed a w (headB_inv hd) (Region.free_spec hi hf) (by simpa using hr) hy hS h
def AllReadyT (P : Program) (md : Region.Mode) (ops : Array Oper) (Q : Exit → Act → World → Prop) (S : World → Prop) (n g fuel : Nat) (listed : Array Bool) (a : Act) (w : World) (rs : List Nat) : Prop :=
  ∀ i ∈ rs, i < n ∧ wpOp P ops Q i (fun a' w' => S w' ∧ wpAnyT P md ops Q S n g fuel (listed.setIfInBounds i true) a' w') a w
theorem wpAnyT_all {n g : Nat} {rs : List Nat} {fuel : Nat} {listed : Array Bool} {a : Act} {w : World} (hr : Region.ready md ops listed = rs) (hne : rs ≠ [])
    (h : AllReadyT P md ops Q S n g fuel listed a w rs) : wpAnyT P md ops Q S n g (fuel + 1) listed a w :=
  ⟨fun h0 => absurd (hr ▸ h0) hne, hr ▸ h⟩
theorem AllReadyT.nil {n g fuel : Nat} {listed : Array Bool} {a : Act} {w : World} : AllReadyT P md ops Q S n g fuel listed a w [] := fun _ h => by cases h
theorem AllReadyT.cons {n g fuel : Nat} {listed : Array Bool} {a : Act} {w : World} {i : Nat} {o : Oper} {rs : List Nat} (ho : ops[i]? = some o) (hin : decide (i < n) = true)
    (h : if Region.wanted o (yielded ops a.tmps) = true then Oper.wp P o a w (fun a' w' => S w' ∧ wpAnyT P md ops Q S n g fuel (listed.setIfInBounds i true) a' w') Q else False)
    (hs : AllReadyT P md ops Q S n g fuel listed a w rs) : AllReadyT P md ops Q S n g fuel listed a w (i :: rs) := by
  intro j hj
  rcases List.mem_cons.1 hj with rfl | hj
  · refine ⟨of_decide_eq_true hin, ?_⟩
    unfold wpOp
    simp only [ho]
    split
    · rename_i hw
      rw [if_pos hw] at h
      exact .inl h
    · rename_i hw
      rw [if_neg hw] at h
      exact h.elim
  · exact hs j hj
/-- All of the head has come up. -/
theorem wpAnyT_done {l : List Oper} {n : Nat} {listed : Array Bool} {a : Act} {w : World} (hq : Region.seqB md l.toArray (l.drop n).length n listed = true) (h : wpList P l.toArray Q (l.drop n) a w) :
    wpAnyT P md l.toArray Q S n (l.drop n).length 0 listed a w :=
  ⟨fun j hj => seqB_ready hq j hj, wpAny_of_seq (l.drop n) n listed a w (fun j => by simp [List.getElem?_drop]) hq h⟩
/-- The beginning. -/
theorem wp_region_T {id : Nat} {l : List Oper} {a : Act} {w : World} (n : Nat) (hm : P.follows .mixedOrders = true) (hb : tailB .any l.toArray n = true) (S : World → Prop) (hS : S w.drew)
    (h : S w.drew → wpAnyT P .any l.toArray Q S n (l.drop n).length n (Array.replicate l.toArray.size false) a w.drew) : (Code.region id l.toArray true).wp P Q a w := by
  refine wp_region_any hm ?_
  have := wpAny_of_T _ _ _ _ (h hS)
  unfold tailB at hb
  simp only [Bool.and_eq_true, decide_eq_true_eq] at hb
  rw [List.length_drop, show n + (l.length - n) = l.toArray.size from by have := hb.1.1.2; simp at this ⊢; omega] at this
  exact this
/-! The same over a list that is written out: an operation comes up as it stands there. -/
theorem wpAnyT_takeL {l : List Oper} {n g i : Nat} {oi : Oper} {v : Value} {fuel : Nat} {listed : Array Bool} {a : Act} {w : World} (hi : l[i]? = some oi)
    (hb : tailB md l.toArray n = true) (hd : headB md l.toArray n listed = true) (hin : decide (i < n) = true) (hf : Region.free md l.toArray listed i = true) (hr : (Region.ready md l.toArray listed).contains i = true)
    (hQ : ∀ c a w, Q (.panic c) (a.put oi.dst v) w → Q (.panic c) a w) (hy : YieldsIf P l.toArray S oi v a) (hS : S w)
    (h : wpAnyT P md l.toArray Q S n g fuel (listed.setIfInBounds i true) (a.put oi.dst v) w) : wpAnyT P md l.toArray Q S n g (fuel + 1) listed a w :=
  wpAnyT_take (i := i) (by simpa using hi) hb hd hin hf hr hQ hy hS h
/-- One operation alone may come up. -/
theorem wpAnyT_one {l : List Oper} {n g i : Nat} {o : Oper} {fuel : Nat} {listed : Array Bool} {a : Act} {w : World} (hr : Region.ready md l.toArray listed = [i]) (ho : l[i]? = some o) (hin : decide (i < n) = true)
    (h : ∀ K : Act → World → Prop, Hd (∀ a' w', S w' → (S w' → wpAnyT P md l.toArray Q S n g fuel (listed.setIfInBounds i true) a' w') → K a' w') →
      if Region.wanted o (yielded l.toArray a.tmps) = true then Oper.wp P o a w K Q else False) : wpAnyT P md l.toArray Q S n g (fuel + 1) listed a w := by
  refine wpAnyT_all hr (by simp) (AllReadyT.cons (o := o) (by simpa using ho) hin ?_ AllReadyT.nil)
  have h1 := h (fun a' w' => S w' ∧ wpAnyT P md l.toArray Q S n g fuel (listed.setIfInBounds i true) a' w') ⟨fun a' w' hs hw => ⟨hs, hw hs⟩⟩
  exact h1
/-- Two operations may come up. -/
theorem wpAnyT_two {l : List Oper} {n g i j : Nat} {o p : Oper} {fuel : Nat} {listed : Array Bool} {a : Act} {w : World} (hr : Region.ready md l.toArray listed = [i, j]) (ho : l[i]? = some o) (hp : l[j]? = some p) (hin : decide (i < n) = true) (hjn : decide (j < n) = true)
    (h : ∀ K : Act → World → Prop, Hd (∀ a' w', S w' → (S w' → wpAnyT P md l.toArray Q S n g fuel (listed.setIfInBounds i true) a' w') → K a' w') →
      if Region.wanted o (yielded l.toArray a.tmps) = true then Oper.wp P o a w K Q else False)
    (h2 : ∀ K : Act → World → Prop, Hd (∀ a' w', S w' → (S w' → wpAnyT P md l.toArray Q S n g fuel (listed.setIfInBounds j true) a' w') → K a' w') →
      if Region.wanted p (yielded l.toArray a.tmps) = true then Oper.wp P p a w K Q else False) : wpAnyT P md l.toArray Q S n g (fuel + 1) listed a w := by
  refine wpAnyT_all hr (by simp) (AllReadyT.cons (o := o) (by simpa using ho) hin ?_ (AllReadyT.cons (o := p) (by simpa using hp) hjn ?_ AllReadyT.nil))
  · exact h (fun a' w' => S w' ∧ wpAnyT P md l.toArray Q S n g fuel (listed.setIfInBounds i true) a' w') ⟨fun a' w' hs hw => ⟨hs, hw hs⟩⟩
  · exact h2 (fun a' w' => S w' ∧ wpAnyT P md l.toArray Q S n g fuel (listed.setIfInBounds j true) a' w') ⟨fun a' w' hs hw => ⟨hs, hw hs⟩⟩
end
/-- A cell of a block that is owned. -/
theorem cb {w : World} {S : HP} {g j : Nat} {cs : Array Value} {e : TypeId} {fz : Nat × Nat} {v : Value} [H : SepI w S] [h : HasBlk S g (.cells cs e fz)] (hv : cs[j]? = some v := by rfl) : w.cell? ⟨g, j, none⟩ = some v := (cell_blk _ _ _ _ _ _ _).trans hv
end Go.Proofs.YtnioipbofopocaaDoor.SL
