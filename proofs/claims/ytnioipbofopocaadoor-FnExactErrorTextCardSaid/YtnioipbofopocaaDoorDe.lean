/- DepthOf: the program's way and the reference's. Conditions: lengths within bounds. -/
import Derived.Test.YtnioipbofopocaaDoorTb
namespace Go.Proofs.YtnioipbofopocaaDoor
open Go.RowKit SL
attribute [local go_sem] cell_blk frozen_blk lt_blk cell_at frozen_row lt_row
set_option linter.unusedVariables false
set_option linter.unusedSimpArgs false

/-- The depth of an error, if those of its parts are told. -/
def dF (known : List Int) (l : List Int) : Int := l.foldl (fun m p => max m (known.getD p.toNat 0)) 0
def depthE (es : List EC) (k : Nat) (known : List Int) : Int := dF known ((es.getD k (0, 0, [])).2.2) + 1
def depths (es : List EC) : List Int := tabF es.length (depthE es) es.length
theorem dF_snoc {known l : List Int} {j : Nat} {p : Int} (h : l[j]? = some p) : dF known (l.take (j + 1)) = max (dF known (l.take j)) (known.getD p.toNat 0) := by
  rw [take_succ_eq h]; simp [dF, List.foldl_append]
theorem dF_le {known : List Int} {m : Int} (hm : 0 ≤ m) (h : ∀ (j : Nat) (v : Int), known[j]? = some v → 0 ≤ v ∧ v ≤ m) (l : List Int) : 0 ≤ dF known l ∧ dF known l ≤ m := by
  unfold dF
  have key : ∀ (l : List Int) (a : Int), 0 ≤ a ∧ a ≤ m → 0 ≤ l.foldl (fun m p => max m (known.getD p.toNat 0)) a ∧ l.foldl (fun m p => max m (known.getD p.toNat 0)) a ≤ m := by
    intro l
    induction l with
    | nil => intro a h; exact h
    | cons p l ih =>
      intro a ha
      refine ih _ ?_
      show 0 ≤ max a (known.getD p.toNat 0) ∧ max a (known.getD p.toNat 0) ≤ m
      cases hp : known[p.toNat]? with
      | none => rw [List.getD_eq_getElem?_getD, hp]; simp only [Option.getD_none]; omega
      | some v => rw [List.getD_eq_getElem?_getD, hp]; have := h _ _ hp; simp only [Option.getD_some]; omega
  exact key l 0 ⟨Int.le_refl _, hm⟩
theorem depths_le (es : List EC) : ∀ (m : Nat) (j : Nat) (v : Int), (tabF es.length (depthE es) m)[j]? = some v → 0 ≤ v ∧ v ≤ m
  | 0, j, v, h => by
    rw [tabF, List.getElem?_replicate] at h
    split at h <;> simp at h
    subst h; omega
  | m + 1, j, v, h => by
    rw [tabF, List.getElem?_set] at h
    split at h
    · split at h
      · simp at h
        subst h
        have e : depthE es (es.length - 1 - m) (tabF es.length (depthE es) m) = dF (tabF es.length (depthE es) m) ((es.getD (es.length - 1 - m) (0, 0, [])).2.2) + 1 := rfl
        rw [e]
        have := dF_le (known := tabF es.length (depthE es) m) (m := (m : Int)) (by omega) (fun j v h => depths_le es m j v h) ((es.getD (es.length - 1 - m) (0, 0, [])).2.2)
        omega
      · cases h
    · have := depths_le es m j v h; omega

theorem getD_of {l : List Int} {k : Nat} {v : Int} (h : l[k]? = some v) : l.getD k 0 = v := by rw [List.getD_eq_getElem?_getD, h]; rfl
/-- In valid errors each part stands behind its error. -/
theorem nodesB_at {n : Nat} : ∀ {l : List EC} {i k : Nat} {x : EC}, nodesB n i l = true → l[k]? = some x → nodeB n (i + k) x = true
  | [], i, k, x, _, h => by simp at h
  | y :: l, i, 0, x, hb, h => by simp at h; subst h; simp [nodesB] at hb; exact hb.1
  | y :: l, i, k + 1, x, hb, h => by
    simp [nodesB] at hb
    have := nodesB_at hb.2 (by simpa using h)
    rw [show i + (k + 1) = i + 1 + k from by omega]; exact this
theorem part_at {es : List EC} (hv : errsB es = true) {k : Nat} {x : EC} (hx : es[k]? = some x) {j : Nat} {p : Int} (hp : x.2.2[j]? = some p) : ∃ q : Nat, p = q ∧ k < q ∧ q < es.length := by
  unfold errsB at hv
  simp only [Bool.and_eq_true] at hv
  have h1 := nodesB_at hv.2 hx
  unfold nodeB partsB at h1
  simp only [Bool.and_eq_true, List.all_eq_true] at h1
  have h2 := inB_true (h1.2.2.2 p (List.mem_of_getElem? hp))
  exact ⟨p.toNat, by omega, by omega, by omega⟩
theorem small_of {es : List EC} (hv : errsB es = true) : 1 ≤ es.length ∧ es.length ≤ 12 := by
  unfold errsB at hv
  simp only [Bool.and_eq_true] at hv
  have := inB_true hv.1
  omega

end Go.Proofs.YtnioipbofopocaaDoor
