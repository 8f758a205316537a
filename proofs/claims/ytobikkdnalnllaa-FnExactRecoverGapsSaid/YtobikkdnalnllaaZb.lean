/- Bounds that hold while a trace is read for its panics. Conditions: none; plain lemmas. -/
import Derived.Test.YtobikkdnalnllaaQb
namespace Go.Proofs.Ytobikkdnalnllaa
open Go.RowKit SL
set_option linter.unusedVariables false
set_option linter.unusedSimpArgs false

theorem read4_next {t : List Ev} {i : Nat} {e : Ev} (h : t[i]? = some e) : read4 (t.take (i + 1)) = (read4 (t.take i)).bind (step4 · e) := by rw [take_succ_eq h, read4_snoc]
theorem read4_none : ∀ (l : List Ev), l.foldl (fun o e => o.bind (step4 · e)) none = none
  | [] => rfl
  | e :: l => by rw [List.foldl_cons]; exact read4_none l
theorem read4_take {t : List Ev} {r : R4} (h : read4 t = some r) (i : Nat) : ∃ q, read4 (t.take i) = some q := by
  have e : read4 t = (t.drop i).foldl (fun o e => o.bind (step4 · e)) (read4 (t.take i)) := by
    unfold read4
    rw [← List.foldl_append, List.take_append_drop]
  cases hq : read4 (t.take i) with
  | some q => exact ⟨q, rfl⟩
  | none => rw [hq, read4_none, h] at e; cases e
structure B4 (i : Nat) (r : R4) : Prop where
  ca : r.calls.length ≤ i
  pa : r.panics.length ≤ i
  de : r.depths.length = r.panics.length
  un : r.unwound.length = r.panics.length
  rp : r.replaced.length = r.panics.length
  be : r.before.length = r.panics.length
  rc : r.recovers.length ≤ i
  ul : ∀ u ∈ r.unwound, u.length ≤ i
  on : ∀ c ∈ r.calls, -1 ≤ c.2 ∧ c.2 < (r.panics.length : Int)
theorem fate4_len (l : List (Int × Int × Int)) (k : Nat) (x : Int) : (fate4 l k x).length = l.length := by
  unfold fate4
  split
  · exact List.length_set
  · rfl
theorem B4.weak {i : Nat} {r : R4} (h : B4 i r) : B4 (i + 1) r :=
  ⟨by have := h.ca; omega, by have := h.pa; omega, h.de, h.un, h.rp, h.be, by have := h.rc; omega, fun u hu => by have := h.ul u hu; omega, h.on⟩
theorem okN_of {r : R4} {k : Int} (h : okN r k = true) : 0 ≤ k ∧ k.toNat < r.panics.length := by
  unfold okN at h
  rw [Bool.and_eq_true, decide_eq_true_eq, decide_eq_true_eq] at h
  exact h
theorem B4.step {i : Nat} {r r' : R4} {e : Ev} (h : B4 i r) (hs : step4 r e = some r') : B4 (i + 1) r' := by
  have w := h.weak
  unfold step4 at hs
  by_cases k13 : e.k = 1 ∨ e.k = 3
  · rw [if_pos k13] at hs
    injection hs with hs
    subst hs
    refine ⟨?_, w.pa, w.de, w.un, w.rp, w.be, w.rc, w.ul, fun c hc => ?_⟩
    · have := h.ca; simp; omega
    · rcases List.mem_cons.1 hc with rfl | hc
      · exact ⟨by show (-1 : Int) ≤ -1; omega, by show (-1 : Int) < _; omega⟩
      · exact h.on c hc
  rw [if_neg k13] at hs
  by_cases k5 : e.k = 5
  · rw [if_pos k5] at hs
    split at hs
    · cases hs
    · rename_i t rest hc
      injection hs with hs
      subst hs
      have hca := h.ca
      have hpa := h.pa
      rw [hc] at hca
      refine ⟨?_, ?_, ?_, ?_, ?_, ?_, w.rc, fun u hu => ?_, fun c hcm => ?_⟩
      · show (_ :: rest).length ≤ _; simp at hca ⊢; omega
      · show (r.panics ++ [_]).length ≤ _; rw [List.length_append]; show _ + 1 ≤ _; omega
      · show (r.depths ++ [_]).length = (r.panics ++ [_]).length; rw [List.length_append, List.length_append, h.de]; rfl
      · show (r.unwound ++ [_]).length = (r.panics ++ [_]).length; rw [List.length_append, List.length_append, h.un]; rfl
      · show (r.replaced ++ [_]).length = (r.panics ++ [_]).length; rw [List.length_append, List.length_append, h.rp]; rfl
      · show (r.before ++ [_]).length = (r.panics ++ [_]).length; rw [List.length_append, List.length_append, h.be]; rfl
      · rcases List.mem_append.1 hu with hu | hu
        · have := h.ul u hu; omega
        · rw [List.mem_singleton] at hu; subst hu; exact Nat.zero_le _
      · show -1 ≤ c.2 ∧ c.2 < ((r.panics ++ [_]).length : Int)
        rw [List.length_append]
        rcases List.mem_cons.1 hcm with rfl | hcm
        · show (-1 : Int) ≤ (r.panics.length : Nat) ∧ ((r.panics.length : Nat) : Int) < _; simp; omega
        · have := h.on c (by rw [hc]; exact List.mem_cons_of_mem _ hcm); simp; omega
  rw [if_neg k5] at hs
  by_cases k6 : e.k = 6
  · rw [if_pos k6] at hs
    split at hs
    · rename_i t p rest hc
      rw [Option.ite_none_right_eq_some] at hs
      obtain ⟨hok, hs⟩ := hs
      injection hs with hs
      subst hs
      have hca := h.ca
      rw [hc] at hca
      refine ⟨?_, ?_, ?_, ?_, ?_, ?_, ?_, w.ul, fun c hcm => ?_⟩
      · show (_ :: _ :: rest).length ≤ _; simp at hca ⊢; omega
      · show (fate4 _ _ _).length ≤ _; rw [fate4_len]; exact w.pa
      · show _ = (fate4 _ _ _).length; rw [fate4_len]; exact h.de
      · show _ = (fate4 _ _ _).length; rw [fate4_len]; exact h.un
      · show _ = (fate4 _ _ _).length; rw [fate4_len]; exact h.rp
      · show _ = (fate4 _ _ _).length; rw [fate4_len]; exact h.be
      · show (r.recovers ++ [_]).length ≤ _; rw [List.length_append]; have := h.rc; show _ + 1 ≤ _; omega
      · show -1 ≤ c.2 ∧ c.2 < ((fate4 _ _ _).length : Int)
        rw [fate4_len]
        rcases List.mem_cons.1 hcm with rfl | hcm
        · exact h.on c (by rw [hc]; exact List.mem_cons_self)
        · rcases List.mem_cons.1 hcm with rfl | hcm
          · exact ⟨by show (-1 : Int) ≤ -1; omega, by show (-1 : Int) < _; omega⟩
          · exact h.on c (by rw [hc]; exact List.mem_cons_of_mem _ (List.mem_cons_of_mem _ hcm))
    · cases hs
  rw [if_neg k6] at hs
  by_cases k7 : e.k = 7
  · rw [if_pos k7] at hs
    split at hs
    · cases hs
    · rename_i t rest hc
      injection hs with hs
      subst hs
      have hca := h.ca
      rw [hc] at hca
      refine ⟨?_, w.pa, w.de, w.un, w.rp, w.be, w.rc, w.ul, fun c hcm => h.on c (by rw [hc]; exact List.mem_cons_of_mem _ hcm)⟩
      show rest.length ≤ _; simp at hca; omega
  rw [if_neg k7] at hs
  by_cases k8 : e.k = 8
  · rw [if_pos k8] at hs
    split at hs
    · cases hs
    · rename_i t rest hc
      rw [Option.ite_none_right_eq_some] at hs
      obtain ⟨hok, hs⟩ := hs
      rw [Bool.and_eq_true] at hok
      have ht := okN_of hok.1
      injection hs with hs
      subst hs
      have hca := h.ca
      rw [hc] at hca
      have hul : ∀ u ∈ r.unwound.set t.2.toNat (r.unwound.getD t.2.toNat [] ++ [e.f]), u.length ≤ i + 1 := fun u hu => by
        rcases List.mem_or_eq_of_mem_set hu with hu | rfl
        · have := h.ul u hu; omega
        · rw [List.length_append]
          show _ + 1 ≤ _
          rw [List.getD_eq_getElem?_getD]
          cases e2 : r.unwound[t.2.toNat]? with
          | none => show 0 + 1 ≤ _; omega
          | some v => have := h.ul v (List.mem_of_getElem? e2); show v.length + 1 ≤ _; omega
      have hcal : ∀ x : Int, (∀ c ∈ rest, -1 ≤ c.2 ∧ c.2 < (r.panics.length : Int)) := fun x c hcm => h.on c (by rw [hc]; exact List.mem_cons_of_mem _ hcm)
      have hrl : rest.length ≤ i + 1 := by simp at hca; omega
      have htb : -1 ≤ t.2 ∧ t.2 < (r.panics.length : Int) := by omega
      unfold unwind4
      cases rest with
      | nil =>
        refine ⟨hrl, ?_, ?_, ?_, ?_, ?_, w.rc, hul, fun c hcm => by cases hcm⟩
        · show (fate4 _ _ _).length ≤ _; rw [fate4_len]; exact w.pa
        · show _ = (fate4 _ _ _).length; rw [fate4_len]; exact h.de
        · show (List.set _ _ _).length = (fate4 _ _ _).length; rw [fate4_len, List.length_set]; exact h.un
        · show _ = (fate4 _ _ _).length; rw [fate4_len]; exact h.rp
        · show _ = (fate4 _ _ _).length; rw [fate4_len]; exact h.be
      | cons p rest' =>
        simp only
        split
        · refine ⟨hrl, ?_, ?_, ?_, ?_, ?_, w.rc, hul, fun c hcm => ?_⟩
          · show (fate4 _ _ _).length ≤ _; rw [fate4_len]; exact w.pa
          · show _ = (fate4 _ _ _).length; rw [fate4_len]; exact h.de
          · show (List.set _ _ _).length = (fate4 _ _ _).length; rw [fate4_len, List.length_set]; exact h.un
          · show (List.set _ _ _).length = (fate4 _ _ _).length; rw [fate4_len, List.length_set]; exact h.rp
          · show (List.set _ _ _).length = (fate4 _ _ _).length; rw [fate4_len, List.length_set]; exact h.be
          · show -1 ≤ c.2 ∧ c.2 < ((fate4 _ _ _).length : Int)
            rw [fate4_len]
            rcases List.mem_cons.1 hcm with rfl | hcm
            · exact htb
            · exact hcal 0 c (List.mem_cons_of_mem _ hcm)
        · refine ⟨hrl, w.pa, w.de, ?_, w.rp, w.be, w.rc, hul, fun c hcm => ?_⟩
          · show (List.set _ _ _).length = _; rw [List.length_set]; exact h.un
          · rcases List.mem_cons.1 hcm with rfl | hcm
            · exact htb
            · exact hcal 0 c (List.mem_cons_of_mem _ hcm)
  rw [if_neg k8] at hs
  by_cases k9 : e.k = 9
  · rw [if_pos k9] at hs
    split at hs
    · cases hs
    · rename_i t rest hc
      rw [Option.ite_none_right_eq_some] at hs
      obtain ⟨hok, hs⟩ := hs
      injection hs with hs
      subst hs
      have hca := h.ca
      rw [hc] at hca
      have hcal : (∀ c ∈ rest, -1 ≤ c.2 ∧ c.2 < (r.panics.length : Int)) := fun c hcm => h.on c (by rw [hc]; exact List.mem_cons_of_mem _ hcm)
      have hrl : rest.length ≤ i + 1 := by simp at hca; omega
      unfold exit4
      cases rest with
      | nil => exact ⟨Nat.zero_le _, w.pa, w.de, w.un, w.rp, w.be, w.rc, w.ul, fun c hcm => by cases hcm⟩
      | cons p rest' =>
        simp only
        split
        · refine ⟨hrl, ?_, ?_, ?_, ?_, ?_, w.rc, w.ul, fun c hcm => ?_⟩
          · show (fate4 _ _ _).length ≤ _; rw [fate4_len]; exact w.pa
          · show _ = (fate4 _ _ _).length; rw [fate4_len]; exact h.de
          · show _ = (fate4 _ _ _).length; rw [fate4_len]; exact h.un
          · show _ = (fate4 _ _ _).length; rw [fate4_len]; exact h.rp
          · show _ = (fate4 _ _ _).length; rw [fate4_len]; exact h.be
          · show -1 ≤ c.2 ∧ c.2 < ((fate4 _ _ _).length : Int)
            rw [fate4_len]
            rcases List.mem_cons.1 hcm with rfl | hcm
            · exact ⟨by show (-1 : Int) ≤ -1; omega, by show (-1 : Int) < _; omega⟩
            · exact hcal c (List.mem_cons_of_mem _ hcm)
        · refine ⟨hrl, w.pa, w.de, w.un, w.rp, w.be, w.rc, w.ul, fun c hcm => ?_⟩
          rcases List.mem_cons.1 hcm with rfl | hcm
          · exact ⟨by show (-1 : Int) ≤ -1; omega, by show (-1 : Int) < _; omega⟩
          · exact hcal c (List.mem_cons_of_mem _ hcm)
  rw [if_neg k9] at hs
  injection hs with hs
  subst hs
  exact w
theorem B4.all {t : List Ev} : ∀ {i : Nat}, i ≤ t.length → ∀ {q : R4}, read4 (t.take i) = some q → B4 i q
  | 0, _, q, h => by
    rw [List.take_zero] at h
    injection h with h
    subst h
    exact ⟨Nat.le_refl _, Nat.le_refl _, rfl, rfl, rfl, rfl, Nat.le_refl _, (fun u hu => by cases hu), (fun c hc => by cases hc)⟩
  | i + 1, hi, q, h => by
    obtain ⟨e, he⟩ := get_ex (xs := t) (k := i) (by omega)
    rw [read4_next he] at h
    cases hq : read4 (t.take i) with
    | none => rw [hq] at h; cases h
    | some p =>
      rw [hq, Option.bind_some] at h
      exact (B4.all (Nat.le_of_succ_le hi) hq).step h
end Go.Proofs.Ytobikkdnalnllaa
