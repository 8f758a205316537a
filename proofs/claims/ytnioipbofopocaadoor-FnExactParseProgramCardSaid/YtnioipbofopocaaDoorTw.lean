/- Parts of a text at a byte: strings.Split's words are the reference's. Conditions: none. -/
import Derived.Test.YtnioipbofopocaaDoorTv
import Derived.Lib.Split
import Derived.Lib.SplitLaws
import Derived.Lib.CountLaws
import Derived.Lib.IndexBytes
namespace Go.Proofs.YtnioipbofopocaaDoor
open Go.RowKit SL
attribute [local go_sem] cell_blk frozen_blk lt_blk cell_at frozen_row lt_row
set_option linter.unusedVariables false
set_option linter.unusedSimpArgs false

theorem splS_eq (b : UInt8) (a : List (List UInt8)) (x : List UInt8) : splS b (a, x) b = (a ++ [x], []) := by unfold splS; rw [if_pos rfl]
theorem splS_ne {b c : UInt8} (h : ¬ c = b) (a : List (List UInt8)) (x : List UInt8) : splS b (a, x) c = (a, x ++ [c]) := by unfold splS; rw [if_neg h]
theorem spl_acc (b : UInt8) : ∀ (l : List UInt8) (acc : List (List UInt8)) (cur : List UInt8), l.foldl (splS b) (acc, cur) = (acc ++ (l.foldl (splS b) ([], cur)).1, (l.foldl (splS b) ([], cur)).2)
  | [], acc, cur => by simp
  | c :: l, acc, cur => by
    rw [List.foldl_cons, List.foldl_cons]
    by_cases h : c = b
    · subst h
      rw [splS_eq, splS_eq, spl_acc c l (acc ++ [cur]) [], spl_acc c l ([] ++ [cur]) []]
      simp
    · rw [splS_ne h, splS_ne h]
      exact spl_acc b l acc (cur ++ [c])
theorem spl_none {b : UInt8} : ∀ {l : List UInt8} (cur : List UInt8), (∀ k : Nat, l[k]? ≠ some b) → l.foldl (splS b) ([], cur) = ([], cur ++ l)
  | [], cur, _ => by simp
  | c :: l, cur, h => by
    have hc : c ≠ b := fun e => h 0 (by simp [e])
    rw [List.foldl_cons, splS_ne hc]
    have := spl_none (b := b) (l := l) (cur ++ [c]) (fun k => by have := h (k + 1); simpa using this)
    exact this.trans (by simp)
theorem splitL_none {b : UInt8} {l : List UInt8} (h : ∀ k : Nat, l[k]? ≠ some b) : splitL b l = [l] := by
  unfold splitL splF
  rw [spl_none [] h]
  rfl
theorem splitL_hit {b : UInt8} {l : List UInt8} {o : Nat} (h : l[o]? = some b) (h2 : ∀ k : Nat, k < o → l[k]? ≠ some b) : splitL b l = l.take o :: splitL b (l.drop (o + 1)) := by
  have hl := (List.getElem?_eq_some_iff.1 h).1
  have hg := (List.getElem?_eq_some_iff.1 h).2
  have e : l = l.take o ++ b :: l.drop (o + 1) := by
    conv => lhs; rw [← List.take_append_drop o l, List.drop_eq_getElem_cons hl, hg]
  have hn : ∀ k : Nat, (l.take o)[k]? ≠ some b := fun k => by
    rw [List.getElem?_take]
    split
    · exact h2 k ‹_›
    · simp
  have hf : splF b l = ([l.take o] ++ (splF b (l.drop (o + 1))).1, (splF b (l.drop (o + 1))).2) := by
    unfold splF
    conv => lhs; rw [e]
    rw [List.foldl_append, spl_none [] hn, List.foldl_cons]
    have : splS b ([], [] ++ l.take o) b = ([l.take o], []) := by rw [splS_eq]; simp
    rw [this, spl_acc b _ [l.take o] []]
  unfold splitL
  rw [hf]
  simp
theorem one_index (s : ByteArray) (b : UInt8) : Lib.indexB s ⟨#[b]⟩ = Lib.indexByte s.data.toList b := by
  have h := Lib.one s ⟨#[b]⟩ rfl
  refine h.trans ?_
  congr 1
  simp [ByteArray.getElem_eq_getElem_data]
/-- strings.Split's parts at one byte. -/
theorem split_same (b : UInt8) : ∀ (n : Nat) (s : ByteArray), s.size ≤ n → Lib.splitB ⟨#[b]⟩ 0 (Lib.countB s ⟨#[b]⟩) s = splT s b ∧ (splT s b).length = Lib.countB s ⟨#[b]⟩ + 1 := by
  intro n
  induction n with
  | zero =>
    intro s hs
    have hd : s.data.toList = [] := List.length_eq_zero_iff.1 (by rw [data_len]; omega)
    have hi : Lib.indexB s ⟨#[b]⟩ = -1 := by rw [one_index, hd]; rfl
    rw [Lib.countB_miss s _ hi, Lib.splitB_miss _ 0 0 s hi]
    unfold splT
    rw [hd]
    have : s = mkT [] := by rw [← hd, mkT_data]
    rw [this]
    exact ⟨rfl, rfl⟩
  | succ n ih =>
    intro s hs
    have hge := Lib.indexByte_ge s.data.toList b
    by_cases hm : Lib.indexByte s.data.toList b = -1
    · have hi : Lib.indexB s ⟨#[b]⟩ = -1 := by rw [one_index, hm]
      rw [Lib.countB_miss s _ hi, Lib.splitB_miss _ 0 0 s hi]
      unfold splT
      rw [splitL_none (Lib.indexByte_none hm), List.map_cons, mkT_data]
      exact ⟨rfl, rfl⟩
    · obtain ⟨o, ho⟩ : ∃ o : Nat, Lib.indexByte s.data.toList b = o := ⟨(Lib.indexByte s.data.toList b).toNat, by omega⟩
      have hi : Lib.indexB s ⟨#[b]⟩ = o := by rw [one_index, ho]
      obtain ⟨h1, h2⟩ := Lib.indexByte_some ho
      have hl := (List.getElem?_eq_some_iff.1 h1).1
      rw [data_len] at hl
      have hsz : (⟨#[b]⟩ : ByteArray).size = 1 := rfl
      have hr : (s.extract (o + 1) s.size).data.toList = s.data.toList.drop (o + 1) := Lib.extract_to_end s (o + 1)
      have hrs : (s.extract (o + 1) s.size).size ≤ n := by rw [← data_len, hr, List.length_drop, data_len]; omega
      obtain ⟨i1, i2⟩ := ih _ hrs
      have hc : Lib.countB s ⟨#[b]⟩ = Lib.countB (s.extract (o + 1) s.size) ⟨#[b]⟩ + 1 := by rw [Lib.countB_hit s _ o (by rw [hsz]; exact Nat.le_refl _) hi, hsz]; omega
      have ht : splT s b = s.extract 0 o :: splT (s.extract (o + 1) s.size) b := by
        unfold splT
        rw [splitL_hit h1 h2, List.map_cons, hr, extract_take s 0 o (Nat.zero_le _), List.drop_zero]
      rw [hc, Lib.splitB_hit _ 0 _ s o hi, hsz, Nat.add_zero, i1, ht]
      exact ⟨rfl, by rw [List.length_cons, i2]⟩
end Go.Proofs.YtnioipbofopocaaDoor
