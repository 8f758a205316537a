/- A region that draws its order, its loads under a fact that holds up to operation b. Conditions: none; plain lemmas. -/
import Derived.Test.YtnioipbofopocaaDoorDr
namespace Go.Proofs.YtnioipbofopocaaDoor.SL
open Go.RowKit
set_option linter.unusedVariables false
section
variable {P : Program} {ops : Array Oper} {Q : Exit → Act → World → Prop} {md : Region.Mode} {S : World → Prop}
/-- S holds, or operation b has come up. -/
def upTo (S : World → Prop) (x : Bool) (w : World) : Prop := x = true ∨ S w
def wpAnyW (P : Program) (md : Region.Mode) (ops : Array Oper) (Q : Exit → Act → World → Prop) (S : World → Prop) (b n g : Nat) : Nat → Array Bool → Act → World → Prop
  | 0, listed, a, w => (∀ j ∈ Region.ready md ops listed, n ≤ j) ∧ wpAny P md ops Q g listed a w
  | fuel + 1, listed, a, w =>
    Region.ready md ops listed ≠ [] ∧ ∀ i ∈ Region.ready md ops listed, i < n ∧ wpOp P ops Q i (fun a' w' => upTo S ((listed.setIfInBounds i true).getD b false) w' ∧ wpAnyW P md ops Q S b n g fuel (listed.setIfInBounds i true) a' w') a w
theorem wpAny_of_W {b n g : Nat} : ∀ (fuel : Nat) (listed : Array Bool) (a : Act) (w : World), wpAnyW P md ops Q S b n g fuel listed a w → wpAny P md ops Q (fuel + g) listed a w
  | 0, _, _, _, h => by rw [Nat.zero_add]; exact h.2
  | fuel + 1, _, _, _, h => by
    rw [show fuel + 1 + g = (fuel + g) + 1 by omega]
    exact ⟨fun h0 => absurd h0 h.1, fun i hi => wpOp_mono (fun a' w' h' => wpAny_of_W fuel _ a' w' h'.2) (h.2 i hi).2⟩
theorem wpAnyW_first {b n g i : Nat} {oi : Oper} {v : Value} {T : World → Prop} (hi : ops[i]? = some oi) (hsel : ∀ (j : Nat) (o : Oper) cs b, ops[j]? = some o → o.op ≠ .select cs b)
    (hs : Region.sinkB md ops n = true) (hc : Region.chainB md ops n = true) (hn : n < ops.size) (hin : i < n) (hib : i ≠ b) (hT0 : ∀ w, S w → T w) (hT1 : Region.waitsFor md ops b i = true ∨ (∀ w, T w) ∨ decide (ops.size ≤ b) = true)
    (hQ : ∀ c a w, Q (.panic c) (a.put oi.dst v) w → Q (.panic c) a w) :
    ∀ (fuel : Nat) (listed : Array Bool) (a : Act) (w : World), HeadInv md ops n listed →
      (∀ j oj, ops[j]? = some oj → j ≠ i → listed.getD j true = false → (∀ e ∈ oj.after, Region.binds md e = true → e.on ≠ i) → oi.apart ops oj = true) →
      i ∈ Region.ready md ops listed → YieldsIf P ops T oi v a → upTo S (listed.getD b false) w →
      wpAnyW P md ops Q S b n g fuel (listed.setIfInBounds i true) (a.put oi.dst v) w → wpAnyW P md ops Q S b n g (fuel + 1) listed a w := by
  have val : ∀ (listed : Array Bool) (w : World), HeadInv md ops n listed → listed.getD i true = false → upTo S (listed.getD b false) w → T w := fun listed w inv hun h => by
    rcases h with h | h
    · rcases hT1 with h1 | h1 | h1
      · obtain ⟨ob, hob, e, he, hb, hon⟩ := Region.waitsFor_spec h1
        have h2 := inv.closed b ob hob h e he hb
        rw [hon, getD_both hun] at h2
        cases h2
      · exact h1 w
      · have := of_decide_eq_true h1
        have e : listed.getD b false = false := by simp [Array.getElem?_eq_none (by rw [inv.size]; exact this)]
        rw [e] at h; cases h
    · exact hT0 w h
  have bit : ∀ (listed : Array Bool), (listed.setIfInBounds i true).getD b false = listed.getD b false := fun listed => getD_set_ne false hib
  intro fuel
  induction fuel with
  | zero =>
    intro listed a w inv _ hr hy hS H
    have hun := (mem_ready.1 hr).1
    refine ⟨fun h => (by rw [h] at hr; cases hr), fun j hj => ?_⟩
    have hjn : j < n := by
      rcases Nat.lt_or_ge j n with h | h
      · exact h
      · exact absurd hj (tail_waits hs hc hn inv _ i rfl hin hun j h)
    refine ⟨hjn, ?_⟩
    by_cases hji : j = i
    · subst hji; exact hy.wpOp hi (val _ _ inv hun hS) ⟨by rw [bit]; exact hS, H⟩
    · have := H.1 j (ready_mono hj hji)
      omega
  | succ fuel ih =>
    intro listed a w inv hfree hr hy hS H
    have hun := (mem_ready.1 hr).1
    refine ⟨fun h => (by rw [h] at hr; cases hr), fun j hj => ?_⟩
    have hjn : j < n := by
      rcases Nat.lt_or_ge j n with h | h
      · exact h
      · exact absurd hj (tail_waits hs hc hn inv _ i rfl hin hun j h)
    refine ⟨hjn, ?_⟩
    by_cases hji : j = i
    · subst hji; exact hy.wpOp hi (val _ _ inv hun hS) ⟨by rw [bit]; exact hS, H⟩
    · have h1 := (H.2 j (ready_mono hj hji)).2
      obtain ⟨hjun, oj, hoj, hall⟩ := mem_ready.1 hj
      have hnot : ∀ e ∈ oj.after, Region.binds md e = true → e.on ≠ i := fun e he hb heq => by
        have h1 := hall e he hb
        rw [heq, getD_both hun] at h1
        cases h1
      have h2 := wpOp_putIf hoj (hfree j oj hoj hji hjun hnot) (fun cs b => hsel i oi cs b hi) (fun cs b => hsel j oj cs b hoj) hQ hy h1
      have hfree' : ∀ k ok, ops[k]? = some ok → k ≠ i → (listed.setIfInBounds j true).getD k true = false →
          (∀ e ∈ ok.after, Region.binds md e = true → e.on ≠ i) → oi.apart ops ok = true := fun k ok hk hki hun hno => by
        refine hfree k ok hk hki ?_ hno
        by_cases hjk : j = k
        · subst hjk; exact hjun
        · rw [getD_set_ne true hjk] at hun; exact hun
      refine wpOp_mono (fun a' w' h3 => ?_) h2
      obtain ⟨g1, g2, g3⟩ := h3
      rw [Array.setIfInBounds_comm _ _ (Ne.symm hji), bit] at g2
      refine ⟨g2, ih (listed.setIfInBounds j true) a' w' (inv.set hj hjn) hfree' (ready_mono hr (Ne.symm hji)) g1 g2 ?_⟩
      rw [Array.setIfInBounds_comm _ _ hji]
      exact g3
theorem wpAnyW_takeL {l : List Oper} {b n g i : Nat} {oi : Oper} {v : Value} {fuel : Nat} {listed : Array Bool} {a : Act} {w : World} (T : World → Prop) (hi : l[i]? = some oi)
    (hb : tailB md l.toArray n = true) (hd : headB md l.toArray n listed = true) (hin : (decide (i < n) && !decide (i = b)) = true) (hf : Region.free md l.toArray listed i = true) (hr : (Region.ready md l.toArray listed).contains i = true)
    (hT0 : ∀ w, S w → T w) (hT1 : Region.waitsFor md l.toArray b i = true ∨ (∀ w, T w) ∨ decide (l.toArray.size ≤ b) = true)
    (hQ : ∀ c a w, Q (.panic c) (a.put oi.dst v) w → Q (.panic c) a w) (hy : YieldsIf P l.toArray T oi v a) (hS : upTo S (listed.getD b false) w)
    (h : wpAnyW P md l.toArray Q S b n g fuel (listed.setIfInBounds i true) (a.put oi.dst v) w) : wpAnyW P md l.toArray Q S b n g (fuel + 1) listed a w := by
  unfold tailB at hb
  simp only [Bool.and_eq_true, decide_eq_true_eq, Bool.not_eq_true', decide_eq_false_iff_not] at hb hin
  exact wpAnyW_first (i := i) (by simpa using hi) (Region.noSelect_spec hb.1.1.1) hb.1.2 hb.2 hb.1.1.2 hin.1 hin.2 hT0 hT1 hQ fuel listed a w (headB_inv hd) (Region.free_spec (by simpa using hi) hf) (by simpa using hr) hy hS h
def AllReadyW (P : Program) (md : Region.Mode) (ops : Array Oper) (Q : Exit → Act → World → Prop) (S : World → Prop) (b n g fuel : Nat) (listed : Array Bool) (a : Act) (w : World) (rs : List Nat) : Prop :=
  ∀ i ∈ rs, i < n ∧ wpOp P ops Q i (fun a' w' => upTo S ((listed.setIfInBounds i true).getD b false) w' ∧ wpAnyW P md ops Q S b n g fuel (listed.setIfInBounds i true) a' w') a w
theorem wpAnyW_all {b n g : Nat} {rs : List Nat} {fuel : Nat} {listed : Array Bool} {a : Act} {w : World} (hr : Region.ready md ops listed = rs) (hne : rs ≠ [])
    (h : AllReadyW P md ops Q S b n g fuel listed a w rs) : wpAnyW P md ops Q S b n g (fuel + 1) listed a w :=
  ⟨fun h0 => absurd (hr ▸ h0) hne, hr ▸ h⟩
theorem AllReadyW.nil {b n g fuel : Nat} {listed : Array Bool} {a : Act} {w : World} : AllReadyW P md ops Q S b n g fuel listed a w [] := fun _ h => by cases h
theorem AllReadyW.cons {b n g fuel : Nat} {listed : Array Bool} {a : Act} {w : World} {i : Nat} {o : Oper} {rs : List Nat} (ho : ops[i]? = some o) (hin : decide (i < n) = true)
    (h : if Region.wanted o (yielded ops a.tmps) = true then Oper.wp P o a w (fun a' w' => upTo S ((listed.setIfInBounds i true).getD b false) w' ∧ wpAnyW P md ops Q S b n g fuel (listed.setIfInBounds i true) a' w') Q else False)
    (hs : AllReadyW P md ops Q S b n g fuel listed a w rs) : AllReadyW P md ops Q S b n g fuel listed a w (i :: rs) := by
  intro j hj
  rcases List.mem_cons.1 hj with rfl | hj
  · refine ⟨of_decide_eq_true hin, ?_⟩
    unfold wpOp
    simp only [ho]
    split
    · rename_i hw
      rw [if_pos hw] at h
      exact .inl h
    · rename_i hw
      rw [if_neg hw] at h
      exact h.elim
  · exact hs j hj
theorem wpAnyW_done {l : List Oper} {b n : Nat} {listed : Array Bool} {a : Act} {w : World} (hq : Region.seqB md l.toArray (l.drop n).length n listed = true) (h : wpList P l.toArray Q (l.drop n) a w) :
    wpAnyW P md l.toArray Q S b n (l.drop n).length 0 listed a w :=
  ⟨fun j hj => seqB_ready hq j hj, wpAny_of_seq (l.drop n) n listed a w (fun j => by simp [List.getElem?_drop]) hq h⟩
theorem wp_region_W {id : Nat} {l : List Oper} {a : Act} {w : World} (n b : Nat) (hm : P.follows .mixedOrders = true) (hb : tailB .any l.toArray n = true) (S : World → Prop) (hS : S w.drew)
    (h : upTo S false w.drew → wpAnyW P .any l.toArray Q S b n (l.drop n).length n (Array.replicate l.toArray.size false) a w.drew) : (Code.region id l.toArray true).wp P Q a w := by
  refine wp_region_any hm ?_
  have := wpAny_of_W _ _ _ _ (h (.inr hS))
  unfold tailB at hb
  simp only [Bool.and_eq_true, decide_eq_true_eq] at hb
  rw [List.length_drop, show n + (l.length - n) = l.toArray.size from by have := hb.1.1.2; simp at this ⊢; omega] at this
  exact this
theorem wpAnyW_one {l : List Oper} {b n g i : Nat} {o : Oper} {fuel : Nat} {listed : Array Bool} {a : Act} {w : World} (x : Bool) (hr : Region.ready md l.toArray listed = [i]) (ho : l[i]? = some o) (hin : decide (i < n) = true) (hx : (listed.setIfInBounds i true).getD b false = x)
    (h : ∀ K : Act → World → Prop, Hd (∀ a' w', upTo S x w' → (upTo S x w' → wpAnyW P md l.toArray Q S b n g fuel (listed.setIfInBounds i true) a' w') → K a' w') →
      if Region.wanted o (yielded l.toArray a.tmps) = true then Oper.wp P o a w K Q else False) : wpAnyW P md l.toArray Q S b n g (fuel + 1) listed a w := by
  refine wpAnyW_all hr (by simp) (AllReadyW.cons (o := o) (by simpa using ho) hin ?_ AllReadyW.nil)
  rw [hx]
  exact h (fun a' w' => upTo S x w' ∧ wpAnyW P md l.toArray Q S b n g fuel (listed.setIfInBounds i true) a' w') ⟨fun a' w' hs hw => ⟨hs, hw hs⟩⟩
theorem wpAnyW_two {l : List Oper} {b n g i j : Nat} {o p : Oper} {fuel : Nat} {listed : Array Bool} {a : Act} {w : World} (x y : Bool) (hr : Region.ready md l.toArray listed = [i, j]) (ho : l[i]? = some o) (hp : l[j]? = some p) (hin : decide (i < n) = true) (hjn : decide (j < n) = true)
    (hx : (listed.setIfInBounds i true).getD b false = x) (hy : (listed.setIfInBounds j true).getD b false = y)
    (h : ∀ K : Act → World → Prop, Hd (∀ a' w', upTo S x w' → (upTo S x w' → wpAnyW P md l.toArray Q S b n g fuel (listed.setIfInBounds i true) a' w') → K a' w') →
      if Region.wanted o (yielded l.toArray a.tmps) = true then Oper.wp P o a w K Q else False)
    (h2 : ∀ K : Act → World → Prop, Hd (∀ a' w', upTo S y w' → (upTo S y w' → wpAnyW P md l.toArray Q S b n g fuel (listed.setIfInBounds j true) a' w') → K a' w') →
      if Region.wanted p (yielded l.toArray a.tmps) = true then Oper.wp P p a w K Q else False) : wpAnyW P md l.toArray Q S b n g (fuel + 1) listed a w := by
  refine wpAnyW_all hr (by simp) (AllReadyW.cons (o := o) (by simpa using ho) hin ?_ (AllReadyW.cons (o := p) (by simpa using hp) hjn ?_ AllReadyW.nil))
  · rw [hx]
    exact h (fun a' w' => upTo S x w' ∧ wpAnyW P md l.toArray Q S b n g fuel (listed.setIfInBounds i true) a' w') ⟨fun a' w' hs hw => ⟨hs, hw hs⟩⟩
  · rw [hy]
    exact h2 (fun a' w' => upTo S y w' ∧ wpAnyW P md l.toArray Q S b n g fuel (listed.setIfInBounds j true) a' w') ⟨fun a' w' hs hw => ⟨hs, hw hs⟩⟩
end
end Go.Proofs.YtnioipbofopocaaDoor.SL
