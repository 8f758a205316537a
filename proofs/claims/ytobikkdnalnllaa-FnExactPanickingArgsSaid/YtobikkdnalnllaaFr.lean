/- Lists of numbers in rising order. Conditions: none; plain lemmas. -/
import Derived.Test.YtobikkdnalnllaaQa
namespace Go.Proofs.Ytobikkdnalnllaa
open Go.RowKit SL
set_option linter.unusedVariables false
set_option linter.unusedSimpArgs false
def Rises (l : List Int) : Prop := l.Pairwise (· < ·)
theorem rises_ext : ∀ {l m : List Int}, Rises l → Rises m → (∀ x, x ∈ l ↔ x ∈ m) → l = m
  | [], [], _, _, _ => rfl
  | [], y :: m, _, _, h => by have := (h y).2 (by simp); cases this
  | x :: l, [], _, _, h => by have := (h x).1 (by simp); cases this
  | x :: l, y :: m, hl, hm, h => by
    unfold Rises at hl hm
    rw [List.pairwise_cons] at hl hm
    have e : x = y := by
      have h1 := (h x).1 (by simp)
      have h2 := (h y).2 (by simp)
      rcases List.mem_cons.1 h1 with rfl | h1
      · rfl
      · rcases List.mem_cons.1 h2 with rfl | h2
        · rfl
        · have a := hm.1 x h1; have b := hl.1 y h2; omega
    subst e
    rw [rises_ext (l := l) (m := m) hl.2 hm.2 (fun z => ?_)]
    have := h z
    simp only [List.mem_cons] at this
    constructor
    · intro hz
      rcases this.1 (.inr hz) with rfl | h'
      · have := hl.1 z hz; omega
      · exact h'
    · intro hz
      rcases this.2 (.inr hz) with rfl | h'
      · have := hm.1 z hz; omega
      · exact h'
/-- A number put to its place, once. -/
def putA : List Int → Int → List Int
  | [], n => [n]
  | x :: l, n => if x < n then x :: putA l n else if x = n then x :: l else n :: x :: l
theorem mem_putA {n x : Int} : ∀ {l : List Int}, x ∈ putA l n ↔ x = n ∨ x ∈ l
  | [] => by simp [putA]
  | y :: l => by
    rw [putA]
    split
    · rw [List.mem_cons, mem_putA, List.mem_cons]; constructor <;> (intro h; rcases h with h | h | h <;> simp [h])
    · split
      · subst_vars; simp
      · simp
theorem rises_putA {n : Int} : ∀ {l : List Int}, Rises l → Rises (putA l n)
  | [], _ => by simp [putA, Rises]
  | y :: l, h => by
    unfold Rises at h ⊢
    rw [List.pairwise_cons] at h
    rw [putA]
    split
    · rw [List.pairwise_cons]
      refine ⟨fun z hz => ?_, rises_putA h.2⟩
      rcases mem_putA.1 hz with rfl | hz
      · assumption
      · exact h.1 z hz
    · split
      · rw [List.pairwise_cons]; exact h
      · rw [List.pairwise_cons, List.pairwise_cons]
        refine ⟨fun z hz => ?_, h⟩
        rcases List.mem_cons.1 hz with rfl | hz
        · omega
        · have := h.1 z hz; omega
/-- Numbers in rising order, each once. -/
def ascA (l : List Int) : List Int := l.foldl putA []
theorem ascA_ok (l : List Int) : Rises (ascA l) ∧ ∀ x, x ∈ ascA l ↔ x ∈ l := by
  have key : ∀ (l a : List Int), Rises a → Rises (l.foldl putA a) ∧ ∀ x, x ∈ l.foldl putA a ↔ x ∈ a ∨ x ∈ l := by
    intro l
    induction l with
    | nil => intro a ha; exact ⟨ha, fun x => by simp⟩
    | cons y l ih =>
      intro a ha
      have := ih (putA a y) (rises_putA ha)
      refine ⟨this.1, fun x => ?_⟩
      rw [List.foldl_cons, this.2 x, mem_putA, List.mem_cons]
      constructor <;> (intro h; rcases h with h | h) <;> first | (rcases h with h | h <;> simp [h]) | simp [h]
  have := key l [] (by simp [Rises])
  exact ⟨this.1, fun x => by have := this.2 x; simpa [ascA] using this⟩
theorem asc_of {l m : List Int} (h : Rises m) (hm : ∀ x, x ∈ m ↔ x ∈ l) : m = ascA l := rises_ext h (ascA_ok l).1 fun x => (hm x).trans ((ascA_ok l).2 x).symm
end Go.Proofs.Ytobikkdnalnllaa
