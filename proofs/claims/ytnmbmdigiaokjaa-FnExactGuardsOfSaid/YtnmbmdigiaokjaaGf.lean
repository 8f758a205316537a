/- GuardsOf by the reference. Conditions: lengths within bounds. -/
import Derived.Test.YtnmbmdigiaokjaaGe
namespace Go.Proofs.Ytnmbmdigiaokjaa
open Go.RowKit SL
attribute [local go_sem] cell_blk frozen_blk lt_blk cell_at frozen_row lt_row
set_option linter.unusedVariables false
set_option linter.unusedSimpArgs false

theorem recN_pos (l : List St) : decide (0 < (recN l l.length).length) = hasRec l := by
  rw [Bool.eq_iff_iff, decide_eq_true_eq, List.length_pos_iff_exists_mem]
  unfold recN hasRec
  rw [List.any_eq_true]
  constructor
  · rintro ⟨i, hi⟩
    obtain ⟨h1, h2⟩ := List.mem_filter.1 hi
    obtain ⟨s, hs⟩ := get_ex (xs := l) (List.mem_range.1 h1)
    unfold recB at h2
    rw [hs] at h2
    exact ⟨s, List.mem_of_getElem? hs, h2⟩
  · rintro ⟨s, hs, hk⟩
    obtain ⟨i, hi⟩ := List.mem_iff_getElem?.1 hs
    refine ⟨i, List.mem_filter.2 ⟨List.mem_range.2 (List.getElem?_eq_some_iff.1 hi).1, ?_⟩⟩
    unfold recB
    rw [hi]; exact hk
theorem small_GuardsOf (L : List (List St)) (f : Int) : (guardsAns L f).length ≤ 1048576 := by
  unfold guardsAns
  split
  · rename_i h
    obtain ⟨hv, k, rfl, hk⟩ := funB_of h
    obtain ⟨x, hx⟩ := get_ex hk
    have h1 := ascA_len (callN kDf (L.getD (Int.toNat k) []))
    have h2 := callN_len kDf (L.getD (Int.toNat k) [])
    have h3 := (prog_small hv).2.2 x (List.mem_of_getElem? hx)
    have h4 := List.length_filter_le (fun g => !noRec L g) (ascA (callN kDf (L.getD (Int.toNat k) [])))
    rw [Int.toNat_natCast, List.getD_eq_getElem?_getD, hx] at h1 h2 h4 ⊢
    simp only [Option.getD_some] at h1 h2 h4 ⊢
    omega
  · simp
end Go.Proofs.Ytnmbmdigiaokjaa
