/- Ends of the calls that are saved, told both ways; chains of panics. Conditions: none; plain lemmas. -/
import Derived.Test.YtobikkdnalnllaaZa
import Derived.Test.YtobikkdnalnllaaQn
namespace Go.Proofs.Ytobikkdnalnllaa
open Go.RowKit SL
set_option linter.unusedVariables false
set_option linter.unusedSimpArgs false

/-- Numbers, each once, in the order in which they come first. -/
def frsS (k : List Int) (x : Int) : List Int := if x ∈ k then k else k ++ [x]
def firsts (l : List Int) : List Int := l.foldl frsS []
theorem firsts_snoc (l : List Int) (x : Int) : firsts (l ++ [x]) = frsS (firsts l) x := by unfold firsts; rw [List.foldl_append]; rfl
theorem firsts_mem_nodup (l : List Int) : ∀ i, (∀ x, x ∈ firsts (l.take i) ↔ x ∈ l.take i) ∧ (firsts (l.take i)).Nodup
  | 0 => ⟨fun x => by rw [List.take_zero]; exact Iff.rfl, List.nodup_nil⟩
  | i + 1 => by
    obtain ⟨h1, h2⟩ := firsts_mem_nodup l i
    by_cases hi : i < l.length
    · obtain ⟨y, hy⟩ := get_ex hi
      rw [take_succ_eq hy, firsts_snoc]
      unfold frsS
      split
      · rename_i hm
        refine ⟨fun x => ?_, h2⟩
        rw [h1, List.mem_append, List.mem_singleton]
        exact ⟨.inl, fun h => h.elim id (fun e => by subst e; exact (h1 x).1 hm)⟩
      · rename_i hm
        refine ⟨fun x => ?_, ?_⟩
        · rw [List.mem_append, List.mem_append, h1]
        · rw [List.nodup_append]
          refine ⟨h2, (List.pairwise_singleton (R := (· ≠ ·)) y), fun a ha b hb => ?_⟩
          rw [List.mem_singleton] at hb
          subst hb
          intro e
          subst e
          exact hm ha
    · rw [List.take_of_length_le (by omega)] at h1 h2 ⊢
      exact ⟨h1, h2⟩
theorem firsts_mem (l : List Int) (x : Int) : x ∈ firsts l ↔ x ∈ l := by
  have := (firsts_mem_nodup l l.length).1 x
  rwa [List.take_length] at this
theorem firsts_nodup (l : List Int) : (firsts l).Nodup := by
  have := (firsts_mem_nodup l l.length).2
  rwa [List.take_length] at this
theorem endQ_perm {l m : List Int} (h : l.Perm m) : endQ l = endQ m := by
  have e : ∀ k, endN l k = endN m k := fun k => by
    unfold endN
    rw [(h.filter (· == k)).length_eq]
  unfold endQ
  rw [e, e, e, e]
theorem nodup_filter {α : Type} {l : List α} (p : α → Bool) (h : l.Nodup) : (l.filter p).Nodup := List.Pairwise.filter p h
/-- The saved calls, told both ways. -/
theorem saved_perm (cs : List C5) (s : List Int) (n : Nat) (hs : ∀ x ∈ s, 0 ≤ x ∧ x < (n : Int)) :
    ((firsts s).map (enAt cs)).Perm (((List.range n).filter (fun j : Nat => s.contains (j : Int))).map (fun j : Nat => enAt cs (j : Int))) := by
  have h1 : ((firsts s).map Int.toNat).Perm ((List.range n).filter (fun j : Nat => s.contains (j : Int))) := by
    rw [List.perm_ext_iff_of_nodup]
    · intro a
      rw [List.mem_map, List.mem_filter, List.mem_range]
      constructor
      · rintro ⟨x, hx, rfl⟩
        have hx := (firsts_mem s x).1 hx
        have hb := hs x hx
        refine ⟨by omega, ?_⟩
        rw [List.contains_iff_mem, Int.toNat_of_nonneg hb.1]
        exact hx
      · rintro ⟨ha, hc⟩
        rw [List.contains_iff_mem] at hc
        exact ⟨(a : Int), (firsts_mem s _).2 hc, rfl⟩
    · have hn := firsts_nodup s
      have hm : ∀ x ∈ firsts s, 0 ≤ x := fun x hx => (hs x ((firsts_mem s x).1 hx)).1
      generalize firsts s = q at hn hm
      induction q with
      | nil => exact List.nodup_nil
      | cons y q ih =>
        rw [List.nodup_cons] at hn
        rw [List.map_cons, List.nodup_cons]
        refine ⟨fun h => ?_, ih hn.2 (fun x hx => hm x (List.mem_cons_of_mem _ hx))⟩
        obtain ⟨z, hz, e⟩ := List.mem_map.1 h
        have a1 := hm z (List.mem_cons_of_mem _ hz)
        have a2 := hm y List.mem_cons_self
        have : z = y := by omega
        subst this
        exact hn.1 hz
    · exact nodup_filter _ List.nodup_range
  have h2 := h1.map (fun j : Nat => enAt cs (j : Int))
  rw [List.map_map] at h2
  have e : (firsts s).map ((fun j : Nat => enAt cs (j : Int)) ∘ Int.toNat) = (firsts s).map (enAt cs) := List.map_congr_left fun x hx => by
    have := hs x ((firsts_mem s x).1 hx)
    show enAt cs ((x.toNat : Nat) : Int) = _
    rw [Int.toNat_of_nonneg this.1]
  rw [e] at h2
  exact h2
/-- The reference's way, up to a call. -/
def selN (cs : List C5) (s : List Int) (i : Nat) : List Int := ((List.range i).filter (fun j : Nat => s.contains (j : Int))).map (fun j : Nat => enAt cs (j : Int))
theorem selN_yes {cs : List C5} {s : List Int} {i : Nat} {c : C5} (h : cs[i]? = some c) (hc : s.contains (i : Int) = true) : selN cs s (i + 1) = selN cs s i ++ [c.en] := by
  unfold selN
  rw [List.range_succ, List.filter_append, List.map_append, List.filter_cons_of_pos (by exact hc)]
  congr 1
  show [enAt cs (i : Int)] = _
  unfold enAt
  rw [Int.toNat_natCast, List.getD_eq_getElem?_getD, h]; rfl
theorem selN_no {cs : List C5} {s : List Int} {i : Nat} (hc : s.contains (i : Int) = false) : selN cs s (i + 1) = selN cs s i := by
  unfold selN
  rw [List.range_succ, List.filter_append, List.map_append, List.filter_cons_of_neg (by show ¬ (s.contains (i : Int) = true); rw [hc]; exact Bool.false_ne_true)]
  exact List.append_nil _
theorem selN_len (cs : List C5) (s : List Int) (i : Nat) : (selN cs s i).length ≤ i := by
  unfold selN
  rw [List.length_map]
  have := List.length_filter_le (fun j : Nat => s.contains (j : Int)) (List.range i)
  rwa [List.length_range] at this
/-- Panics from one on, each behind the one that it has replaced last. -/
def chainN (va la : List Int) : Nat → Int → List Int
  | 0, _ => []
  | n + 1, k => if k < 0 then [] else va.getD k.toNat 0 :: chainN va la n (la.getD k.toNat (-1))
/-- The fuel does not matter when it is enough. -/
theorem chainN_fuel (va la : List Int) (hla : ∀ (k : Nat) (x : Int), la[k]? = some x → x < (k : Int)) : ∀ (n m : Nat) (k : Int), k < (n : Int) → k < (m : Int) → chainN va la n k = chainN va la m k
  | 0, 0, k, _, _ => rfl
  | 0, m + 1, k, h, _ => by
    show [] = (if k < 0 then [] else _)
    rw [if_pos (by omega)]
  | n + 1, 0, k, _, h => by
    show (if k < 0 then [] else _) = []
    rw [if_pos (by omega)]
  | n + 1, m + 1, k, h1, h2 => by
    show (if k < 0 then [] else _) = (if k < 0 then [] else _)
    split
    · rfl
    · have : la.getD k.toNat (-1) < k := by
        rw [List.getD_eq_getElem?_getD]
        cases e : la[k.toNat]? with
        | none => show (-1 : Int) < k; omega
        | some x => have := hla _ x e; show x < k; omega
      rw [chainN_fuel va la hla n m _ (by omega) (by omega)]
end Go.Proofs.Ytobikkdnalnllaa
