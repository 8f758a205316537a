/- slices.DeleteFunc over a row of ints of its own. Conditions: lengths within bounds. -/
import Derived.Test.YtobikkdnalnllaaQa
import Derived.Lib.SliceRun
namespace Go.Proofs.Ytobikkdnalnllaa
open Go.RowKit SL
attribute [local go_sem] cell_blk frozen_blk lt_blk cell_at frozen_row lt_row
set_option linter.unusedVariables false
set_option linter.unusedSimpArgs false
def setL {α : Type} : List α → Nat → List α → List α
  | cs, _, [] => cs
  | cs, o, v :: r => setL (cs.set o v) (o + 1) r
theorem setL_get {α : Type} : ∀ (zs cs : List α) (o j : Nat), o + zs.length ≤ cs.length → (setL cs o zs)[j]? = if o ≤ j ∧ j < o + zs.length then zs[j - o]? else cs[j]?
  | [], cs, o, j, h => by rw [setL, if_neg (by simp)]
  | v :: r, cs, o, j, h => by
    rw [List.length_cons] at h
    rw [setL, setL_get r _ _ j (by rw [List.length_set]; omega), List.length_cons]
    by_cases hj : o = j
    · subst hj
      rw [if_neg (by omega), if_pos (by omega), List.getElem?_set_self (by omega), Nat.sub_self]; rfl
    · by_cases h2 : o + 1 ≤ j ∧ j < o + 1 + r.length
      · rw [if_pos h2, if_pos (by omega), show j - o = (j - (o + 1)) + 1 from by omega]; rfl
      · rw [if_neg h2, if_neg (by omega), List.getElem?_set_ne hj]
theorem setL_all {α : Type} {zs cs : List α} (h : zs.length = cs.length) : setL cs 0 zs = zs := by
  refine List.ext_getElem? fun j => ?_
  rw [setL_get _ _ _ _ (by omega)]
  split
  · rfl
  · rw [List.getElem?_eq_none (by omega), List.getElem?_eq_none (by omega)]
theorem SepI.setCellsRow {F : HP} {g n c : Nat} {e : TypeId} : ∀ (zs cs : List Value) (o : Nat) (w : World), SepI w (Row e 1 (.slice (some ⟨g, 0, none⟩) n c) n cs * F) → SepI (w.setCells g o zs) (Row e 1 (.slice (some ⟨g, 0, none⟩) n c) n (setL cs o zs) * F)
  | [], cs, o, w, H => H
  | v :: r, cs, o, w, H => SepI.setCellsRow r (cs.set o v) (o + 1) (w.setCell ⟨g, o, none⟩ v) (SepI.i_setRow w _ _ g o v _ _ _ _ _)
theorem ExtI.setCells {u : World} {g : Nat} : ∀ (zs : List Value) (o : Nat) (w : World), ExtI u w → ExtI u (w.setCells g o zs)
  | [], o, w, H => H
  | v :: r, o, w, H => ExtI.setCells r (o + 1) (w.setCell ⟨g, o, none⟩ v) inferInstance
def KeptL (l : List Int) (p : Int → Bool) (i j : Nat) (cs : List Int) : Prop :=
  cs.length = l.length ∧ cs.take i = (l.take j).filter (fun x => !p x) ∧ cs.drop j = l.drop j
theorem KeptL.start {l : List Int} {p : Int → Bool} {k : Nat} {x : Int} (hx : l[k]? = some x) (hp : p x = true) (h : (l.take k).any p = false) : KeptL l p k (k + 1) l := by
  refine ⟨rfl, ?_, rfl⟩
  rw [take_succ_eq hx, List.filter_append]
  have : (l.take k).filter (fun x => !p x) = l.take k := List.filter_eq_self.2 fun y hy => by
    have := List.any_eq_false.1 h y hy
    simpa using this
  rw [this]
  simp [hp]
theorem KeptL.done {l : List Int} {p : Int → Bool} {i : Nat} {cs : List Int} (h : KeptL l p i l.length cs) : cs.take i = l.filter (fun x => !p x) := by rw [h.2.1, List.take_length]
end Go.Proofs.Ytobikkdnalnllaa
