/- PruneErrors: plain law. Conditions: none. -/
import Derived.Test.YtnmbmdigiaokjaaOe
import Derived.Test.YtnmbmdigiaokjaaFy
import Derived.Test.YtnmbmdigiaokjaaLe
import Derived.Test.YtnmbmdigiaokjaaSo
namespace Go.Proofs.Ytnmbmdigiaokjaa
open Go.RowKit SL
set_option linter.unusedVariables false
set_option linter.unusedSimpArgs false

def keepN (f : Nat → Bool) (m : Nat) : List Nat := (List.range m).filter f
def rankN (f : Nat → Bool) (p : Nat) : Nat := (keepN f p).length
def pruneOne (f : Nat → Bool) (x : EC) : EC := (x.1, x.2.1, x.2.2.map (fun p => ((rankN f p.toNat : Nat) : Int)))
def pruneF (es : List EC) (f : Nat → Bool) (K : List Nat) : List EC := K.map (fun k => pruneOne f (es.getD k (0, 0, [])))
def keptB (es : List EC) (n : Nat) (k : Nat) : Bool := (found es n).contains k
def pruneAns (es : List EC) (a : Int) : List EC := if hasB es [a] then pruneF es (keptB es a.toNat) (keepN (keptB es a.toNat) es.length) else []
theorem keepN_succ (f : Nat → Bool) (m : Nat) : keepN f (m + 1) = if f m then keepN f m ++ [m] else keepN f m := by
  unfold keepN
  rw [List.range_succ, List.filter_append, List.filter_cons, List.filter_nil]
  cases f m with
  | true => rfl
  | false => rw [if_neg Bool.false_ne_true, if_neg Bool.false_ne_true, List.append_nil]
theorem rankN_succ (f : Nat → Bool) (m : Nat) : rankN f (m + 1) = rankN f m + (if f m then 1 else 0) := by
  unfold rankN
  rw [keepN_succ]
  split <;> simp
theorem rankN_le (f : Nat → Bool) (m : Nat) : rankN f m ≤ m := by
  unfold rankN keepN
  have := List.length_filter_le f (List.range m)
  rwa [List.length_range] at this
theorem keepN_mem (f : Nat → Bool) (m k : Nat) : k ∈ keepN f m ↔ k < m ∧ f k = true := by unfold keepN; rw [List.mem_filter, List.mem_range]
theorem keepN_split (f : Nat → Bool) {m p : Nat} (hp : p < m) (h : f p = true) : ∃ r, keepN f m = keepN f p ++ p :: r := by
  induction m with
  | zero => omega
  | succ m ih =>
    rw [keepN_succ]
    by_cases e : p = m
    · subst e; rw [h, if_pos rfl]; exact ⟨[], rfl⟩
    · obtain ⟨r, hr⟩ := ih (by omega)
      split
      · exact ⟨r ++ [m], by rw [hr, List.append_assoc]; rfl⟩
      · exact ⟨r, hr⟩
theorem idx_rank (f : Nat → Bool) {m p : Nat} (hp : p < m) (h : f p = true) : idxI (nats (keepN f m)) p = (rankN f p : Nat) := by
  obtain ⟨r, hr⟩ := keepN_split f hp h
  have e : nats (keepN f m) = nats (keepN f p) ++ (p : Int) :: nats r := by rw [hr]; unfold nats; rw [List.map_append]; rfl
  have hl : (nats (keepN f p)).length = rankN f p := by rw [nats_len]; rfl
  rw [e]
  refine idxI_at (k := rankN f p) ?_ ?_
  · rw [List.getElem?_append_right (by rw [hl]; exact Nat.le_refl _), hl, Nat.sub_self]; rfl
  · rw [List.take_append_of_le_length (by rw [hl]; exact Nat.le_refl _), ← hl, List.take_length, nats_has]
    rw [Bool.eq_false_iff]
    intro hc
    have := (keepN_mem f p p).1 (List.contains_iff_mem.1 hc)
    omega
theorem kept_asc {es : List EC} (hv : errsB es = true) {n : Nat} (hn : n < es.length) : ascA (nats (found es n)) = nats (keepN (keptB es n) es.length) := by
  refine (asc_of ?_ ?_).symm
  · exact rises_nats_range _ _
  · intro x
    unfold nats
    simp only [List.mem_map]
    constructor
    · rintro ⟨k, hk, rfl⟩
      exact ⟨k, List.contains_iff_mem.1 ((keepN_mem _ _ _).1 hk).2, rfl⟩
    · rintro ⟨k, hk, rfl⟩
      exact ⟨k, (keepN_mem _ _ _).2 ⟨((mem_found hv hn k).1 hk).lt hv hn, List.contains_iff_mem.2 hk⟩, rfl⟩
/-- A part of an error that is kept is kept. -/
theorem kept_part {es : List EC} (hv : errsB es = true) {n : Nat} (hn : n < es.length) {k : Nat} (hk : keptB es n k = true) {x : EC} (hx : es[k]? = some x) {j : Nat} {y : Int} (hy : x.2.2[j]? = some y) :
    ∃ q : Nat, y = q ∧ q < es.length ∧ keptB es n q = true := by
  obtain ⟨q, rfl, _, hq⟩ := part_at hv hx hy
  refine ⟨q, rfl, hq, ?_⟩
  unfold keptB at hk ⊢
  rw [List.contains_iff_mem] at hk ⊢
  refine (mem_found hv hn q).2 (((mem_found hv hn k).1 hk).snoc ?_)
  unfold partsN
  rw [List.getD_eq_getElem?_getD, hx]
  exact List.mem_map.2 ⟨(q : Int), List.mem_of_getElem? hy, rfl⟩
theorem prune_yes {es : List EC} {k : Nat} (h : hasB es [(k : Int)] = true) : pruneAns es k = pruneF es (keptB es k) (keepN (keptB es k) es.length) := by
  unfold pruneAns; rw [h, if_pos rfl, Int.toNat_natCast]
theorem prune_no {es : List EC} {a : Int} (h : hasB es [a] = false) : pruneAns es a = [] := by unfold pruneAns; rw [h]; rfl
theorem small_PruneErrors (es : List EC) (a : Int) : (pruneAns es a).length ≤ 1048576 ∧ ∀ x ∈ pruneAns es a, x.2.2.length ≤ 1048576 := by
  cases h : hasB es [a]
  · rw [prune_no h]; exact few_nil
  · obtain ⟨hv, k, rfl, hk⟩ := hasB_one h
    rw [prune_yes h]
    have h12 := (small_of hv).2
    unfold pruneF
    refine ⟨?_, fun x hx => ?_⟩
    · rw [List.length_map]
      have := rankN_le (keptB es k) es.length
      unfold rankN at this
      omega
    · obtain ⟨i, hi, rfl⟩ := List.mem_map.1 hx
      show ((es.getD i (0, 0, [])).2.2.map _).length ≤ _
      rw [List.length_map, List.getD_eq_getElem?_getD]
      cases hg : es[i]? with
      | none => simp
      | some y =>
        unfold errsB at hv
        simp only [Bool.and_eq_true] at hv
        have h1 := nodesB_at hv.2 hg
        unfold nodeB at h1
        simp only [Bool.and_eq_true, decide_eq_true_eq] at h1
        have := h1.2.2.1
        simp only [Option.getD_some]
        omega
end Go.Proofs.Ytnmbmdigiaokjaa
