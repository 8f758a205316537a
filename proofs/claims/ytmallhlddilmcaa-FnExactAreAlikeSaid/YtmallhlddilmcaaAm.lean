/- AreAlike: the program's classes are the reference's. Conditions: none; plain lemmas. -/
import Derived.Test.YtmallhlddilmcaaAl
namespace Go.Proofs.Ytmallhlddilmcaa
open Go.RowKit SL
set_option linter.unusedVariables false
set_option linter.unusedSimpArgs false

theorem firstK_some {p : Nat → Bool} {k : Nat} : ∀ {n j : Nat}, firstK p k n = some j → k < j ∧ j < n ∧ p j = true ∧ ∀ i, j < i → i < n → p i = false
  | 0, j, h => by cases h
  | n + 1, j, h => by
    rw [firstK] at h
    split at h
    · split at h
      · injection h with h; subst h; refine ⟨‹_›, Nat.lt_succ_self _, ‹_›, fun i h1 h2 => by omega⟩
      · have := firstK_some h
        refine ⟨this.1, by omega, this.2.2.1, fun i h1 h2 => ?_⟩
        by_cases e : i = n
        · subst e; simpa using ‹¬ p i = true›
        · exact this.2.2.2 i h1 (by omega)
    · cases h
theorem firstK_nothing {p : Nat → Bool} {k : Nat} : ∀ {n : Nat}, firstK p k n = none → ∀ i, k < i → i < n → p i = false
  | 0, h, i, _, hi => by omega
  | n + 1, h, i, h1, h2 => by
    rw [firstK] at h
    split at h
    · split at h
      · cases h
      · by_cases e : i = n
        · subst e; simpa using ‹¬ p i = true›
        · exact firstK_nothing h i h1 (by omega)
    · omega
theorem firstK_of {p : Nat → Bool} {k j : Nat} (hk : k < j) (hp : p j = true) : ∀ {n : Nat}, j < n → (∀ i, j < i → i < n → p i = false) → firstK p k n = some j
  | 0, h, _ => by omega
  | n + 1, h, hn => by
    rw [firstK, if_pos (by omega)]
    by_cases e : n = j
    · subst e; rw [if_pos hp]
    · rw [if_neg (by rw [hn n (by omega) (by omega)]; exact Bool.false_ne_true)]
      exact firstK_of hk hp (by omega) (fun i h1 h2 => hn i h1 (by omega))
theorem firstK_no {p : Nat → Bool} {k : Nat} : ∀ {n : Nat}, (∀ i, k < i → i < n → p i = false) → firstK p k n = none
  | 0, _ => rfl
  | n + 1, h => by
    rw [firstK]
    split
    · rw [if_neg (by rw [h n ‹_› (by omega)]; exact Bool.false_ne_true)]
      exact firstK_no fun i h1 h2 => h i h1 (by omega)
    · rfl
/-- An entry that is told stays. -/
theorem tabF_stays {n : Nat} (of : Nat → List Int → Int) {j k : Nat} (h : k ≤ j) (hj : j < n) : ∀ d, d + (n - (j + 1)) + 1 = n - k → (tabF n of (n - k)).getD j 0 = (tabF n of (n - j)).getD j 0 := by
  intro d
  induction d generalizing k with
  | zero => intro e; rw [show n - k = n - j from by omega]
  | succ d ih =>
    intro e
    have hkj : k < j := by omega
    rw [tabF_next of (by omega : k < n)]
    rw [List.getD_eq_getElem?_getD, List.getElem?_set_ne (by omega), ← List.getD_eq_getElem?_getD]
    exact ih (k := k + 1) (by omega) (by omega)
theorem tabF_at {n : Nat} (of : Nat → List Int → Int) {j k : Nat} (h : k ≤ j) (hj : j < n) : (tabF n of (n - k)).getD j 0 = of j (tabF n of (n - (j + 1))) := by
  rw [tabF_stays of h hj (j - k) (by omega), tabF_next of hj, List.getD_eq_getElem?_getD, List.getElem?_set_self (by rw [tabF_len]; exact hj)]; rfl
theorem eq2_congr {p q : Int → Int → Bool} : ∀ {xs ys : List Int}, (∀ x ∈ xs, ∀ y ∈ ys, p x y = q x y) → eq2 p xs ys = eq2 q xs ys
  | [], [], _ => rfl
  | [], _ :: _, _ => rfl
  | _ :: _, [], _ => rfl
  | x :: xs, y :: ys, h => by
    rw [eq2, eq2, h x (by simp) y (by simp), eq2_congr fun a ha b hb => h a (by simp [ha]) b (by simp [hb])]
theorem eq2_trans {known : List Int} : ∀ {xs ys zs : List Int}, eq2 (eqAt known) xs ys = true → eq2 (eqAt known) ys zs = true → eq2 (eqAt known) xs zs = true
  | [], [], zs, _, h => h
  | [], _ :: _, _, h, _ => by cases h
  | _ :: _, [], _, h, _ => by cases h
  | x :: xs, y :: ys, [], _, h => by cases h
  | x :: xs, y :: ys, z :: zs, h1, h2 => by
    rw [eq2, Bool.and_eq_true] at h1 h2 ⊢
    refine ⟨?_, eq2_trans h1.2 h2.2⟩
    have a := h1.1; have b := h2.1
    unfold eqAt at a b ⊢
    rw [beq_iff_eq] at a b ⊢
    exact a.trans b
theorem alikeB_trans {known : List Int} {x y z : EC} (h1 : alikeB known x y = true) (h2 : alikeB known y z = true) : alikeB known x z = true := by
  unfold alikeB at *
  simp only [Bool.and_eq_true, beq_iff_eq] at *
  exact ⟨h1.1.trans h2.1, h1.2.1.trans h2.2.1, eq2_trans h1.2.2 h2.2.2⟩
/-- The classes, told so far: those of the errors behind k. -/
abbrev knowns (es : List EC) (k : Nat) : List Int := tabF es.length (clsE es) (es.length - k)
theorem alikeB_stays {es : List EC} (hv : errsB es = true) {k j i : Nat} (hkj : k < j) (hji : j < i) (hi : i < es.length) :
    alikeB (knowns es (k + 1)) (nodeAt es j) (nodeAt es i) = alikeB (knowns es (j + 1)) (nodeAt es j) (nodeAt es i) := by
  obtain ⟨x, hx⟩ : ∃ x, es[j]? = some x := ⟨es[j]'(by omega), by simp⟩
  obtain ⟨y, hy⟩ : ∃ y, es[i]? = some y := ⟨es[i], by simp [hi]⟩
  have ex : nodeAt es j = x := by unfold nodeAt; rw [List.getD_eq_getElem?_getD, hx]; rfl
  have ey : nodeAt es i = y := by unfold nodeAt; rw [List.getD_eq_getElem?_getD, hy]; rfl
  rw [ex, ey]
  unfold alikeB
  congr 2
  refine eq2_congr fun a ha b hb => ?_
  obtain ⟨ja, hja⟩ := List.mem_iff_getElem?.1 ha
  obtain ⟨jb, hjb⟩ := List.mem_iff_getElem?.1 hb
  obtain ⟨qa, rfl, h1, h2⟩ := part_at hv hx hja
  obtain ⟨qb, rfl, h3, h4⟩ := part_at hv hy hjb
  unfold eqAt
  rw [Int.toNat_natCast, Int.toNat_natCast, tabF_at _ (by omega) h2, tabF_at _ (by omega) h4, tabF_at _ (by omega) h2, tabF_at _ (by omega) h4]
/-- The program's class of an error is the reference's: the greatest one that is alike and stands for itself. -/
theorem cls_rep {es : List EC} (hv : errsB es = true) {k : Nat} (hk : k < es.length) :
    clsE es k (knowns es (k + 1)) = ((firstK (fun j => (knowns es (k + 1)).getD j 0 == (j : Int) && alikeB (knowns es (k + 1)) (nodeAt es k) (nodeAt es j)) k es.length).getD k : Nat) := by
  show clsV _ k (firstK _ k es.length) = _
  cases hf : firstK (fun j => alikeB (knowns es (k + 1)) (nodeAt es k) (nodeAt es j)) k es.length with
  | none =>
    have := firstK_nothing hf
    rw [firstK_no (p := fun j => (knowns es (k + 1)).getD j 0 == (j : Int) && alikeB (knowns es (k + 1)) (nodeAt es k) (nodeAt es j)) (fun i h1 h2 => by
      show (_ && _) = false
      rw [this i h1 h2, Bool.and_false])]
    rfl
  | some j =>
    obtain ⟨h1, h2, h3, h4⟩ := firstK_some hf
    have hj : (knowns es (k + 1)).getD j 0 = j := by
      rw [tabF_at _ (by omega) h2]
      show clsV _ j (firstK _ j es.length) = _
      rw [firstK_no (p := fun i => alikeB (knowns es (j + 1)) (nodeAt es j) (nodeAt es i)) (fun i g1 g2 => by
        cases hb : alikeB (knowns es (j + 1)) (nodeAt es j) (nodeAt es i) with
        | false => rfl
        | true =>
          rw [← alikeB_stays hv h1 g1 g2] at hb
          have := alikeB_trans h3 hb
          rw [h4 i g1 g2] at this
          cases this)]
      rfl
    rw [firstK_of (p := fun j => (knowns es (k + 1)).getD j 0 == (j : Int) && alikeB (knowns es (k + 1)) (nodeAt es k) (nodeAt es j)) h1 (by show (_ && _) = true; rw [hj, h3]; simp) h2 (fun i g1 g2 => by
      show (_ && _) = false
      rw [h4 i g1 g2, Bool.and_false])]
    exact hj
end Go.Proofs.Ytmallhlddilmcaa
