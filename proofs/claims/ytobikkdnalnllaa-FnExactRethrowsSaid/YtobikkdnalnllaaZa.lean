/- Plain lemmas on what a trace tells: whose a panic is; chains; ends of calls that are saved. Conditions: none. -/
import Derived.Test.YtobikkdnalnllaaQl
import Derived.Test.YtobikkdnalnllaaZb
namespace Go.Proofs.Ytobikkdnalnllaa
open Go.RowKit SL
set_option linter.unusedVariables false
set_option linter.unusedSimpArgs false

/-- The calls that are open, from the last one on. -/
def Chain (cs : List C5) : Int → Nat → Prop
  | now, 0 => now = -1
  | now, n + 1 => ∃ (j : Nat) (c : C5), now = (j : Int) ∧ cs[j]? = some c ∧ Chain cs c.up n
theorem Chain.mono {cs cs' : List C5} (h : ∀ (j : Nat) (c : C5), cs[j]? = some c → ∃ c', cs'[j]? = some c' ∧ c'.up = c.up) : ∀ {n : Nat} {now : Int}, Chain cs now n → Chain cs' now n
  | 0, _, H => H
  | n + 1, _, ⟨j, c, e, hc, H⟩ => by
    obtain ⟨c', hc', hu⟩ := h j c hc
    exact ⟨j, c', e, hc', by rw [hu]; exact Chain.mono h H⟩
theorem chain_all {t : List Ev} : ∀ {i : Nat}, i ≤ t.length → ∀ {q : R3} {r : R4}, read3 (t.take i) = some q → read4 (t.take i) = some r → Chain q.calls q.now r.calls.length
  | 0, _, q, r, h, h' => by
    rw [List.take_zero] at h h'
    injection h with h
    injection h' with h'
    subst h; subst h'; rfl
  | i + 1, hi, q, r, h, h' => by
    obtain ⟨⟨k, f, v⟩, hx⟩ := get_ex (xs := t) (k := i) (by omega)
    rw [read3_next hx] at h
    rw [read4_next hx] at h'
    cases hq : read3 (t.take i) with
    | none => rw [hq] at h; cases h
    | some p =>
      cases hr : read4 (t.take i) with
      | none => rw [hr] at h'; cases h'
      | some s =>
        rw [hq, Option.bind_some] at h
        rw [hr, Option.bind_some] at h'
        have ih := chain_all (Nat.le_of_succ_le hi) hq hr
        obtain ⟨hl, _⟩ := step4_len h'
        obtain ⟨cs, os, now⟩ := p
        by_cases k13 : k = 1 ∨ k = 3
        · rw [if_pos k13] at hl
          rw [step3_open k13] at h
          injection h with h
          subst h
          rw [hl]
          refine ⟨cs.length, ⟨f, now, k == 3, 4, 0⟩, rfl, by simp, ?_⟩
          exact Chain.mono (fun j c hc => ⟨c, by rw [List.getElem?_append_left (List.getElem?_eq_some_iff.1 hc).1]; exact hc, rfl⟩) ih
        · rw [if_neg k13] at hl
          by_cases h0 : end3 k = 0
          · have : ¬ (k = 7 ∨ k = 8 ∨ k = 9) := by
              rintro (rfl | rfl | rfl) <;> cases h0
            rw [if_neg this] at hl
            rw [step3_none k13 h0] at h
            injection h with h
            subst h
            rw [hl]; exact ih
          · have h789 : k = 7 ∨ k = 8 ∨ k = 9 := by
              by_cases h7 : k = 7
              · exact .inl h7
              · by_cases h8 : k = 8
                · exact .inr (.inl h8)
                · by_cases h9 : k = 9
                  · exact .inr (.inr h9)
                  · exact absurd (end3_no h7 h8 h9) h0
            rw [if_pos h789] at hl
            obtain ⟨j, c, hj, hc, rfl⟩ := step3_shut k13 h0 h
            have ih : Chain cs now s.calls.length := ih
            rw [← hl] at ih
            obtain ⟨j2, c2, e2, hc2, H⟩ := ih
            have : j2 = j := by rw [hj] at e2; omega
            subst this
            rw [hc] at hc2
            injection hc2 with hc2
            subst hc2
            show Chain (cs.set j2 _) c.up r.calls.length
            refine Chain.mono (fun n x hx => ?_) H
            by_cases e : n = j2
            · subst e
              rw [hc] at hx
              injection hx with hx
              exact ⟨_, List.getElem?_set_self (List.getElem?_eq_some_iff.1 hc).1, by rw [← hx]⟩
            · exact ⟨x, by rw [List.getElem?_set_ne (Ne.symm e)]; exact hx, rfl⟩
/-- What is told stays told. -/
theorem read3_keep {t : List Ev} {i : Nat} {q : R3} (hi : i ≤ t.length) (h : read3 (t.take i) = some q) : ∀ {j : Nat}, i ≤ j → j ≤ t.length → ∀ {p : R3}, read3 (t.take j) = some p → q.calls.length ≤ p.calls.length ∧ ∀ n, n < i → p.owners[n]? = q.owners[n]?
  | 0, hij, _, p, hp => by
    have : i = 0 := by omega
    subst this
    rw [h] at hp
    injection hp with hp
    subst hp
    exact ⟨Nat.le_refl _, fun n hn => by omega⟩
  | j + 1, hij, hj, p, hp => by
    by_cases e : i = j + 1
    · subst e
      rw [h] at hp
      injection hp with hp
      subst hp
      exact ⟨Nat.le_refl _, fun n hn => rfl⟩
    · obtain ⟨⟨k, f, v⟩, hx⟩ := get_ex (xs := t) (k := j) (by omega)
      rw [read3_next hx] at hp
      cases hq : read3 (t.take j) with
      | none => rw [hq] at hp; cases hp
      | some s =>
        rw [hq, Option.bind_some] at hp
        obtain ⟨ih1, ih2⟩ := read3_keep hi h (by omega) (by omega) hq
        have hl := step3_len hp
        have hol := (read3_len (by omega) hq).1
        refine ⟨by omega, fun n hn => ?_⟩
        rw [← ih2 n hn]
        obtain ⟨cs, os, now⟩ := s
        have hol : os.length = j := hol
        by_cases k13 : k = 1 ∨ k = 3
        · rw [step3_open k13] at hp
          injection hp with hp
          subst hp
          exact List.getElem?_append_left (by omega)
        · by_cases h0 : end3 k = 0
          · rw [step3_none k13 h0] at hp
            injection hp with hp
            subst hp
            exact List.getElem?_append_left (by omega)
          · obtain ⟨a, c, rfl, _, rfl⟩ := step3_shut k13 h0 hp
            exact List.getElem?_append_left (by omega)
/-- A panic is of a call that is open. -/
theorem own5 {R : Run} (F : Facts R) {i : Nat} {e : Ev} {o : Int} (h1 : R.m.trace[i]? = some e) (h2 : R.m.owners[i]? = some o) (hk : e.k = 5) : ∃ j : Nat, o = j ∧ j < R.m.calls.length := by
  obtain ⟨now, hr3⟩ := F.r3
  obtain ⟨on, hr4⟩ := F.r4
  have hi := (List.getElem?_eq_some_iff.1 h1).1
  obtain ⟨⟨cs, os, nw⟩, hq⟩ := read3_take hr3 i
  obtain ⟨r, hr⟩ := read4_take hr4 i
  obtain ⟨r', hr'⟩ := read4_take hr4 (i + 1)
  have hc := chain_all (Nat.le_of_lt hi) hq hr
  have hs4 := hr'
  rw [read4_next h1, hr, Option.bind_some] at hs4
  obtain ⟨_, hpos⟩ := step4_len hs4
  have hpos := hpos hk
  obtain ⟨n, hn⟩ : ∃ n, r.calls.length = n + 1 := ⟨r.calls.length - 1, by omega⟩
  rw [hn] at hc
  obtain ⟨j, c, e2, hcj, _⟩ := hc
  have e2 : nw = (j : Int) := e2
  have hcj : cs[j]? = some c := hcj
  have hnx := read3_next h1
  rw [hq, Option.bind_some] at hnx
  have hst : step3 ⟨cs, os, nw⟩ e = some ⟨cs, os ++ [nw], nw⟩ := by
    obtain ⟨k, f, v⟩ := e
    exact step3_none (by show ¬ (k = 1 ∨ k = 3); have hk : k = 5 := hk; omega) (by have hk : k = 5 := hk; rw [hk]; rfl)
  rw [hst] at hnx
  have hk := read3_keep (t := R.m.trace) (i := i + 1) (j := R.m.trace.length) hi hnx hi (Nat.le_refl _) (by rw [List.take_length]; exact hr3)
  have hol : os.length = i := (read3_len (Nat.le_of_lt hi) hq).1
  have h3 := hk.2 i (by omega)
  have h3 : R.m.owners[i]? = (os ++ [nw])[i]? := h3
  rw [h2, ← hol, List.getElem?_concat_length] at h3
  injection h3 with h3
  have h4 : cs.length ≤ (R.m.calls.map c5).length := hk.1
  rw [List.length_map] at h4
  exact ⟨j, by rw [h3, e2], by have := (List.getElem?_eq_some_iff.1 hcj).1; omega⟩
end Go.Proofs.Ytobikkdnalnllaa
