/- WrapError: what the law asks of its answer. Conditions: none. -/
import Derived.Test.YtnmbmdigiaokjaaOd
namespace Go.Proofs.Ytnmbmdigiaokjaa
/-- Errors of which each has few parts. -/
def Few (l : List EC) : Prop := l.length ≤ 1048576 ∧ ∀ x ∈ l, x.2.2.length ≤ 1048576
theorem few_ahead {es : List EC} (h : errsB es = true) {k c : Int} {l : List Int} (hl : l.length ≤ 12) : Few (aheadF k c l es) := by
  have h12 := (small_of h).2
  unfold aheadF
  refine ⟨by rw [List.length_map, List.length_cons]; omega, fun x hx => ?_⟩
  obtain ⟨y, hy, rfl⟩ := List.mem_map.1 hx
  show (y.2.2.map _).length ≤ _
  rw [List.length_map]
  rcases List.mem_cons.1 hy with rfl | hy
  · show l.length ≤ _; omega
  · obtain ⟨j, hj⟩ := List.getElem?_of_mem hy
    unfold errsB at h
    simp only [Bool.and_eq_true] at h
    have h1 := nodesB_at h.2 hj
    unfold nodeB at h1
    simp only [Bool.and_eq_true, decide_eq_true_eq] at h1
    have := h1.2.2.1
    omega
theorem few_nil : Few [] := ⟨by simp, by simp⟩
theorem small_WrapError (es : List EC) (n code : Int) : (wrapAns es n code).length ≤ 1048576 ∧ ∀ x ∈ wrapAns es n code, x.2.2.length ≤ 1048576 := by
  cases h : wrapOk es n code
  · rw [wrap_no h]; exact few_nil
  · rw [wrap_yes h]
    unfold wrapOk hasB at h
    simp only [Bool.and_eq_true] at h
    exact few_ahead h.1.1 (by simp)
end Go.Proofs.Ytnmbmdigiaokjaa
