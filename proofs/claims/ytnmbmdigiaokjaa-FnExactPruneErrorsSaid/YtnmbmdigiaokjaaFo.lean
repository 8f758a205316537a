/- Errors: which are in the walk of one, by the program's way and by the reference's; the first of a kind; rising lists. Conditions: none; plain lemmas. -/
import Derived.Test.YtnmbmdigiaokjaaDe
namespace Go.Proofs.Ytnmbmdigiaokjaa
open Go.RowKit SL
set_option linter.unusedVariables false
set_option linter.unusedSimpArgs false

/-- The parts of an error, as numbers. -/
def partsN (es : List EC) (k : Nat) : List Nat := ((es.getD k (0, 0, [])).2.2).map Int.toNat
theorem partsN_lt {es : List EC} (hv : errsB es = true) {k p : Nat} (h : p ∈ partsN es k) : k < p ∧ p < es.length := by
  unfold partsN at h
  obtain ⟨q, hq, rfl⟩ := List.mem_map.1 h
  cases hx : es[k]? with
  | none => rw [List.getD_eq_getElem?_getD, hx] at hq; simp at hq
  | some x =>
    rw [List.getD_eq_getElem?_getD, hx] at hq
    obtain ⟨j, hj⟩ := List.mem_iff_getElem?.1 hq
    obtain ⟨q, rfl, h1, h2⟩ := part_at hv hx hj
    rw [Int.toNat_natCast]; exact ⟨h1, h2⟩
/-- Error k is in the walk of error n. -/
inductive Reach (es : List EC) : Nat → Nat → Prop
  | refl (n : Nat) : Reach es n n
  | step {n p k : Nat} (h : p ∈ partsN es n) (r : Reach es p k) : Reach es n k
theorem Reach.le {es : List EC} (hv : errsB es = true) {n k : Nat} (h : Reach es n k) : n ≤ k := by
  induction h with
  | refl n => exact Nat.le_refl _
  | step h r ih => have := (partsN_lt hv h).1; omega
theorem Reach.lt {es : List EC} (hv : errsB es = true) {n k : Nat} (h : Reach es n k) (hn : n < es.length) : k < es.length := by
  induction h with
  | refl n => exact hn
  | step h r ih => exact ih (partsN_lt hv h).2
theorem Reach.snoc {es : List EC} {n k p : Nat} (h : Reach es n k) (hp : p ∈ partsN es k) : Reach es n p := by
  induction h with
  | refl n => exact .step hp (.refl _)
  | step h r ih => exact .step h (ih hp)
theorem Reach.within {es : List EC} {Q : Nat → Prop} {n k : Nat} (h : Reach es n k) (hq : ∀ a, Q a → ∀ p ∈ partsN es a, Q p) (hn : Q n) : Q k := by
  induction h with
  | refl n => exact hn
  | step h r ih => exact ih (hq _ hn _ h)

/-- The errors of a walk, each where it comes first. -/
def foundF (es : List EC) : Nat → List Nat → Nat → List Nat
  | 0, out, _ => out
  | d + 1, out, n => if out.contains n then out else (partsN es n).foldl (fun o p => foundF es d o p) (out ++ [n])
/-- What the appending of one walk keeps: prog are the errors whose parts are still being appended. -/
structure Fnd (es : List EC) (n : Nat) (prog out out' : List Nat) : Prop where
  sub : ∀ x ∈ out, x ∈ out'
  has : n ∈ out'
  only : ∀ x ∈ out', x ∈ out ∨ Reach es n x
  shut : (∀ x ∈ out, x ∉ prog → ∀ p ∈ partsN es x, p ∈ out) → ∀ x ∈ out', x ∉ prog → ∀ p ∈ partsN es x, p ∈ out'
theorem foundF_ok {es : List EC} (hv : errsB es = true) : ∀ (d n : Nat) (out prog : List Nat), es.length ≤ d + n → n < es.length → (∀ x ∈ prog, x < n) → Fnd es n prog out (foundF es d out n)
  | 0, n, out, prog, h, hn, _ => by omega
  | d + 1, n, out, prog, h, hn, hpg => by
    rw [foundF]
    split
    · rename_i hc
      rw [List.contains_iff_mem] at hc
      exact ⟨fun x h => h, hc, fun x h => .inl h, fun h => h⟩
    · have key : ∀ (l done : List Nat) (o : List Nat), partsN es n = done ++ l →
          (∀ x ∈ out ++ [n], x ∈ o) → (∀ p ∈ done, p ∈ o) → (∀ x ∈ o, x ∈ out ∨ Reach es n x) →
          ((∀ x ∈ out, x ∉ prog → ∀ p ∈ partsN es x, p ∈ out) → ∀ x ∈ o, x ∉ n :: prog → ∀ p ∈ partsN es x, p ∈ o) →
          Fnd es n prog out (l.foldl (fun o p => foundF es d o p) o) := by
        intro l
        induction l with
        | nil =>
          intro done o hd hs hdn ho hsh
          rw [List.append_nil] at hd
          refine ⟨fun x hx => hs x (by simp [hx]), hs n (by simp), ho, fun hc x hx hxp p hp => ?_⟩
          by_cases e : x = n
          · subst e; exact hdn p (hd ▸ hp)
          · exact hsh hc x hx (by simp [e, hxp]) p hp
        | cons q l ih =>
          intro done o hd hs hdn ho hsh
          have hq : q ∈ partsN es n := by rw [hd]; simp
          have hql := partsN_lt hv hq
          have F := foundF_ok hv d q o (n :: prog) (by omega) hql.2 (fun x hx => by
            rcases List.mem_cons.1 hx with rfl | hx
            · exact hql.1
            · have := hpg x hx; omega)
          refine ih (done ++ [q]) _ (by rw [hd]; simp) (fun x hx => F.sub x (hs x hx)) (fun p hp => ?_) (fun x hx => ?_) (fun hc => F.shut (hsh hc))
          · rcases List.mem_append.1 hp with hp | hp
            · exact F.sub p (hdn p hp)
            · rw [List.mem_singleton.1 hp]; exact F.has
          · rcases F.only x hx with hx | hx
            · exact ho x hx
            · exact .inr (.step hq hx)
      refine key (partsN es n) [] (out ++ [n]) rfl (fun x h => h) (fun p hp => by cases hp) (fun x hx => ?_) (fun hc x hx hxp p hp => ?_)
      · rcases List.mem_append.1 hx with hx | hx
        · exact .inl hx
        · rw [List.mem_singleton.1 hx]; exact .inr (.refl _)
      · rcases List.mem_append.1 hx with hx | hx
        · exact List.mem_append_left _ (hc x hx (fun h => hxp (by simp [h])) p hp)
        · rw [List.mem_singleton.1 hx] at hxp; simp at hxp
def found (es : List EC) (n : Nat) : List Nat := foundF es es.length [] n
theorem mem_found {es : List EC} (hv : errsB es = true) {n : Nat} (hn : n < es.length) (k : Nat) : k ∈ found es n ↔ Reach es n k := by
  have F := foundF_ok hv es.length n [] [] (by omega) hn (fun x hx => by cases hx)
  constructor
  · intro h
    rcases F.only k h with h | h
    · cases h
    · exact h
  · intro h
    exact h.within (Q := (· ∈ found es n)) (fun a ha p hp => F.shut (fun x hx => by cases hx) a ha (fun h => by cases h) p hp) F.has

/-- Which errors are in the walk of error n: the errors before i have been asked. -/
def markL (l : List Bool) (ps : List Nat) : List Bool := ps.foldl (fun l p => l.set p true) l
def inS (es : List EC) (n : Nat) : Nat → List Bool
  | 0 => (List.replicate es.length false).set n true
  | i + 1 => if (inS es n i).getD (n + i) false then markL (inS es n i) (partsN es (n + i)) else inS es n i
def inL (es : List EC) (n : Nat) : List Bool := inS es n (es.length - n)
theorem markL_len (l : List Bool) (ps : List Nat) : (markL l ps).length = l.length := by
  unfold markL
  induction ps generalizing l with
  | nil => rfl
  | cons p ps ih => rw [List.foldl_cons, ih, List.length_set]
theorem inS_len (es : List EC) (n i : Nat) : (inS es n i).length = es.length := by
  induction i with
  | zero => simp [inS]
  | succ i ih => rw [inS]; split <;> simp [markL_len, ih]
theorem markL_get (ps : List Nat) : ∀ (l : List Bool) (k : Nat), k < l.length → (markL l ps).getD k false = (l.getD k false || ps.contains k) := by
  induction ps with
  | nil => intro l k hk; simp [markL]
  | cons p ps ih =>
    intro l k hk
    show (markL (l.set p true) ps).getD k false = _
    rw [ih _ _ (by simpa using hk), List.contains_cons, List.getD_eq_getElem?_getD, List.getElem?_set]
    by_cases e : p = k
    · subst e; simp [hk]
    · have e' : (k == p) = false := by simpa using fun h => e h.symm
      rw [if_neg e, e', Bool.false_or, List.getD_eq_getElem?_getD]
theorem inS_ok {es : List EC} (hv : errsB es = true) {n : Nat} (hn : n < es.length) : ∀ i, n + i ≤ es.length →
    (∀ k, (inS es n i).getD k false = true → Reach es n k) ∧ (inS es n i).getD n false = true ∧ ∀ j, j < n + i → (inS es n i).getD j false = true → ∀ p ∈ partsN es j, (inS es n i).getD p false = true
  | 0, _ => by
    refine ⟨fun k h => ?_, ?_, fun j hj h => ?_⟩
    · rw [inS, List.getD_eq_getElem?_getD, List.getElem?_set] at h
      split at h
      · subst_vars; exact .refl _
      · rw [List.getElem?_replicate] at h; split at h <;> simp at h
    · rw [inS, List.getD_eq_getElem?_getD, List.getElem?_set_self (by simp [hn])]; rfl
    · rw [inS, List.getD_eq_getElem?_getD, List.getElem?_set_ne (by omega), List.getElem?_replicate] at h
      split at h <;> simp at h
  | i + 1, hi => by
    obtain ⟨h1, h2, h3⟩ := inS_ok hv hn i (by omega)
    have hl := inS_len es n i
    rw [inS]
    split
    · rename_i hb
      have get : ∀ k, k < es.length → (markL (inS es n i) (partsN es (n + i))).getD k false = ((inS es n i).getD k false || (partsN es (n + i)).contains k) := fun k hk => markL_get _ _ _ (by rw [hl]; exact hk)
      refine ⟨fun k h => ?_, ?_, fun j hj h p hp => ?_⟩
      · by_cases hk : k < es.length
        · rw [get k hk, Bool.or_eq_true, List.contains_iff_mem] at h
          rcases h with h | h
          · exact h1 k h
          · exact (h1 _ hb).snoc h
        · rw [List.getD_eq_getElem?_getD, List.getElem?_eq_none (by rw [markL_len, hl]; omega)] at h; simp at h
      · rw [get n hn, h2]; rfl
      · have hpl := partsN_lt hv hp
        rw [get p hpl.2, Bool.or_eq_true, List.contains_iff_mem]
        by_cases e : j = n + i
        · subst e; exact .inr hp
        · rw [get j (by omega), Bool.or_eq_true, List.contains_iff_mem] at h
          rcases h with h | h
          · exact .inl (h3 j (by omega) h p hp)
          · have := (partsN_lt hv h).1; omega
    · rename_i hb
      refine ⟨h1, h2, fun j hj h p hp => ?_⟩
      by_cases e : j = n + i
      · subst e; exact absurd h hb
      · exact h3 j (by omega) h p hp
theorem inL_ok {es : List EC} (hv : errsB es = true) {n : Nat} (hn : n < es.length) (k : Nat) : (inL es n).getD k false = true ↔ Reach es n k := by
  have h := inS_ok hv hn (es.length - n) (by omega)
  refine ⟨h.1 k, fun r => ?_⟩
  refine r.within (Q := fun k => (inL es n).getD k false = true) (fun a ha p hp => h.2.2 a ?_ ha p hp) h.2.1
  have := (h.1 a ha).lt hv hn
  omega
theorem in_found {es : List EC} (hv : errsB es = true) {n : Nat} (hn : n < es.length) (k : Nat) : (inL es n).getD k false = (found es n).contains k := by
  rw [Bool.eq_iff_iff, inL_ok hv hn, List.contains_iff_mem, mem_found hv hn]
def kindAt (es : List EC) (k : Nat) : Int := (es.getD k (0, 0, [])).1
def kB (es : List EC) (kind : Int) (k : Nat) : Bool := kindAt es k == kind
/-- In the walk of error n there is one of a kind. -/
def canB (es : List EC) (kind : Int) (n : Nat) : Bool := (found es n).any (kB es kind)
theorem canB_iff {es : List EC} (hv : errsB es = true) {kind : Int} {n : Nat} (hn : n < es.length) : canB es kind n = true ↔ ∃ k, Reach es n k ∧ kB es kind k = true := by
  unfold canB
  rw [List.any_eq_true]
  constructor
  · rintro ⟨k, h, hk⟩; exact ⟨k, (mem_found hv hn k).1 h, hk⟩
  · rintro ⟨k, h, hk⟩; exact ⟨k, (mem_found hv hn k).2 h, hk⟩
theorem canB_eq {es : List EC} (hv : errsB es = true) {kind : Int} {n : Nat} (hn : n < es.length) : canB es kind n = (kB es kind n || (partsN es n).any (canB es kind)) := by
  rw [Bool.eq_iff_iff, canB_iff hv hn, Bool.or_eq_true, List.any_eq_true]
  constructor
  · rintro ⟨k, h, hk⟩
    cases h with
    | refl => exact .inl hk
    | step h r => exact .inr ⟨_, h, (canB_iff hv (partsN_lt hv h).2).2 ⟨k, r, hk⟩⟩
  · rintro (h | ⟨p, hp, h⟩)
    · exact ⟨n, .refl _, h⟩
    · obtain ⟨k, r, hk⟩ := (canB_iff hv (partsN_lt hv hp).2).1 h
      exact ⟨k, .step hp r, hk⟩
/-- The reference's way down. -/
def downF (es : List EC) (kind : Int) : Nat → Nat → Nat
  | 0, n => n
  | d + 1, n => if kB es kind n then n else match (partsN es n).find? (canB es kind) with
    | some p => downF es kind d p
    | none => n
theorem foundF_prefix (es : List EC) : ∀ (d n : Nat) (out : List Nat), ∃ t, foundF es d out n = out ++ t
  | 0, n, out => ⟨[], by simp [foundF]⟩
  | d + 1, n, out => by
    rw [foundF]
    split
    · exact ⟨[], by simp⟩
    · have key : ∀ (l : List Nat) (o : List Nat), ∃ t, l.foldl (fun o p => foundF es d o p) o = o ++ t := by
        intro l
        induction l with
        | nil => intro o; exact ⟨[], by simp⟩
        | cons q l ih =>
          intro o
          obtain ⟨t1, h1⟩ := foundF_prefix es d q o
          obtain ⟨t2, h2⟩ := ih (o ++ t1)
          exact ⟨t1 ++ t2, by rw [List.foldl_cons, h1, h2, List.append_assoc]⟩
      obtain ⟨t, h⟩ := key (partsN es n) (out ++ [n])
      exact ⟨n :: t, by rw [h]; simp⟩
theorem fold_prefix (es : List EC) (d : Nat) : ∀ (l : List Nat) (o : List Nat), ∃ t, l.foldl (fun o p => foundF es d o p) o = o ++ t := by
  intro l
  induction l with
  | nil => intro o; exact ⟨[], by simp⟩
  | cons q l ih =>
    intro o
    obtain ⟨t1, h1⟩ := foundF_prefix es d q o
    obtain ⟨t2, h2⟩ := ih (o ++ t1)
    exact ⟨t1 ++ t2, by rw [List.foldl_cons, h1, h2, List.append_assoc]⟩
def Shut (es : List EC) (prog out : List Nat) : Prop := ∀ x ∈ out, x ∉ prog → ∀ p ∈ partsN es x, p ∈ out
theorem found_first {es : List EC} (hv : errsB es = true) (kind : Int) : ∀ (d n : Nat) (out prog : List Nat), es.length ≤ d + n → n < es.length → (∀ x ∈ prog, x < n) → Shut es prog out → out.find? (kB es kind) = none →
    (foundF es d out n).find? (kB es kind) = if canB es kind n then some (downF es kind d n) else none
  | 0, n, out, prog, h, hn, _, _, _ => by omega
  | d + 1, n, out, prog, h, hn, hpg, hsh, hno => by
    rw [foundF]
    split
    · rename_i hc
      rw [List.contains_iff_mem] at hc
      have hf : canB es kind n = false := by
        rw [← Bool.not_eq_true, canB_iff hv hn]
        rintro ⟨k, r, hk⟩
        have hmem : k ∈ out ∧ ∀ x ∈ prog, x < k := r.within (Q := fun k => k ∈ out ∧ ∀ x ∈ prog, x < k) (fun a ha p hp => ⟨hsh a ha.1 (fun q => by have := ha.2 a q; omega) p hp, fun x hx => by have := ha.2 x hx; have := (partsN_lt hv hp).1; omega⟩) ⟨hc, hpg⟩
        rw [List.find?_eq_none] at hno
        exact hno k hmem.1 hk
      rw [hno, hf]; rfl
    · by_cases hk : kB es kind n = true
      · obtain ⟨t, ht⟩ := fold_prefix es d (partsN es n) (out ++ [n])
        rw [ht, List.find?_append, List.find?_append, hno]
        have : canB es kind n = true := (canB_iff hv hn).2 ⟨n, .refl _, hk⟩
        rw [this, if_pos rfl, downF, if_pos hk]
        simp [List.find?_cons, hk]
      · have hk' : kB es kind n = false := by simpa using hk
        have key : ∀ (l done : List Nat) (o : List Nat), partsN es n = done ++ l → Shut es (n :: prog) o → o.find? (kB es kind) = none →
            (l.foldl (fun o p => foundF es d o p) o).find? (kB es kind) = match l.find? (canB es kind) with
              | some p => some (downF es kind d p)
              | none => none := by
          intro l
          induction l with
          | nil => intro done o _ _ ho; exact ho
          | cons q l ih =>
            intro done o hd hs ho
            have hq : q ∈ partsN es n := by rw [hd]; simp
            have hql := partsN_lt hv hq
            have hpg' : ∀ x ∈ n :: prog, x < q := fun x hx => by
              rcases List.mem_cons.1 hx with rfl | hx
              · exact hql.1
              · have := hpg x hx; omega
            have F := found_first hv kind d q o (n :: prog) (by omega) hql.2 hpg' hs ho
            rw [List.foldl_cons, List.find?_cons]
            cases hc : canB es kind q with
            | true =>
              rw [hc, if_pos rfl] at F
              obtain ⟨t, ht⟩ := fold_prefix es d l (foundF es d o q)
              rw [ht, List.find?_append, F]
              rfl
            | false =>
              rw [hc, if_neg Bool.false_ne_true] at F
              exact ih (done ++ [q]) _ (by rw [hd]; simp) ((foundF_ok hv d q o (n :: prog) (by omega) hql.2 hpg').shut hs) F
        rw [key (partsN es n) [] (out ++ [n]) rfl (fun x hx hxp p hp => ?_) (by rw [List.find?_append, hno]; simp [List.find?_cons, hk'])]
        · rw [canB_eq hv hn, hk', Bool.false_or, downF, if_neg hk]
          cases hf : (partsN es n).find? (canB es kind) with
          | some p => rw [if_pos (List.any_eq_true.2 ⟨p, List.mem_of_find?_eq_some hf, List.find?_some hf⟩)]
          | none =>
            rw [if_neg]
            rw [List.any_eq_true]
            rintro ⟨p, hp, hc⟩
            exact (List.find?_eq_none.1 hf) p hp hc
        · rcases List.mem_append.1 hx with hx | hx
          · exact List.mem_append_left _ (hsh x hx (fun h => hxp (by simp [h])) p hp)
          · rw [List.mem_singleton.1 hx] at hxp; simp at hxp
theorem serves_eq {es : List EC} (hv : errsB es = true) (kind : Int) {n : Nat} (hn : n < es.length) :
    (found es n).find? (kB es kind) = if canB es kind n then some (downF es kind es.length n) else none :=
  found_first hv kind es.length n [] [] (by omega) hn (fun x hx => by cases hx) (fun x hx => by cases hx) rfl
def Rises (l : List Int) : Prop := l.Pairwise (· < ·)
theorem rises_ext : ∀ {l m : List Int}, Rises l → Rises m → (∀ x, x ∈ l ↔ x ∈ m) → l = m
  | [], [], _, _, _ => rfl
  | [], y :: m, _, _, h => by have := (h y).2 (by simp); cases this
  | x :: l, [], _, _, h => by have := (h x).1 (by simp); cases this
  | x :: l, y :: m, hl, hm, h => by
    unfold Rises at hl hm
    rw [List.pairwise_cons] at hl hm
    have e : x = y := by
      have h1 := (h x).1 (by simp)
      have h2 := (h y).2 (by simp)
      rcases List.mem_cons.1 h1 with rfl | h1
      · rfl
      · rcases List.mem_cons.1 h2 with rfl | h2
        · rfl
        · have a := hm.1 x h1; have b := hl.1 y h2; omega
    subst e
    rw [rises_ext (l := l) (m := m) hl.2 hm.2 (fun z => ?_)]
    have := h z
    simp only [List.mem_cons] at this
    constructor
    · intro hz
      rcases this.1 (.inr hz) with rfl | h'
      · have := hl.1 z hz; omega
      · exact h'
    · intro hz
      rcases this.2 (.inr hz) with rfl | h'
      · have := hm.1 z hz; omega
      · exact h'
/-- A number put to its place, once. -/
def putA : List Int → Int → List Int
  | [], n => [n]
  | x :: l, n => if x < n then x :: putA l n else if x = n then x :: l else n :: x :: l
theorem mem_putA {n x : Int} : ∀ {l : List Int}, x ∈ putA l n ↔ x = n ∨ x ∈ l
  | [] => by simp [putA]
  | y :: l => by
    rw [putA]
    split
    · rw [List.mem_cons, mem_putA, List.mem_cons]; constructor <;> (intro h; rcases h with h | h | h <;> simp [h])
    · split
      · subst_vars; simp
      · simp
theorem rises_putA {n : Int} : ∀ {l : List Int}, Rises l → Rises (putA l n)
  | [], _ => by simp [putA, Rises]
  | y :: l, h => by
    unfold Rises at h ⊢
    rw [List.pairwise_cons] at h
    rw [putA]
    split
    · rw [List.pairwise_cons]
      refine ⟨fun z hz => ?_, rises_putA h.2⟩
      rcases mem_putA.1 hz with rfl | hz
      · assumption
      · exact h.1 z hz
    · split
      · rw [List.pairwise_cons]; exact h
      · rw [List.pairwise_cons, List.pairwise_cons]
        refine ⟨fun z hz => ?_, h⟩
        rcases List.mem_cons.1 hz with rfl | hz
        · omega
        · have := h.1 z hz; omega
/-- Numbers in rising order, each once. -/
def ascA (l : List Int) : List Int := l.foldl putA []
theorem ascA_ok (l : List Int) : Rises (ascA l) ∧ ∀ x, x ∈ ascA l ↔ x ∈ l := by
  have key : ∀ (l a : List Int), Rises a → Rises (l.foldl putA a) ∧ ∀ x, x ∈ l.foldl putA a ↔ x ∈ a ∨ x ∈ l := by
    intro l
    induction l with
    | nil => intro a ha; exact ⟨ha, fun x => by simp⟩
    | cons y l ih =>
      intro a ha
      have := ih (putA a y) (rises_putA ha)
      refine ⟨this.1, fun x => ?_⟩
      rw [List.foldl_cons, this.2 x, mem_putA, List.mem_cons]
      constructor <;> (intro h; rcases h with h | h) <;> first | (rcases h with h | h <;> simp [h]) | simp [h]
  have := key l [] (by simp [Rises])
  exact ⟨this.1, fun x => by have := this.2 x; simpa [ascA] using this⟩
theorem asc_of {l m : List Int} (h : Rises m) (hm : ∀ x, x ∈ m ↔ x ∈ l) : m = ascA l := rises_ext h (ascA_ok l).1 fun x => (hm x).trans ((ascA_ok l).2 x).symm
/-- What compaction leaves. -/
def compA : List Int → List Int
  | [] => []
  | [x] => [x]
  | x :: y :: l => if x = y then compA (y :: l) else x :: compA (y :: l)
theorem compA_head : ∀ (x : Int) (l : List Int), ∃ r, compA (x :: l) = x :: r
  | x, [] => ⟨[], rfl⟩
  | x, y :: l => by
    rw [compA]
    split
    · subst_vars; exact compA_head y l
    · exact ⟨_, rfl⟩
theorem mem_compA {z : Int} : ∀ {l : List Int}, z ∈ compA l ↔ z ∈ l
  | [] => Iff.rfl
  | [x] => Iff.rfl
  | x :: y :: l => by
    rw [compA]
    split
    · subst_vars; rw [mem_compA]; simp
    · rw [List.mem_cons, mem_compA, List.mem_cons (a := z) (b := x)]
theorem rises_compA : ∀ {l : List Int}, l.Pairwise (· ≤ ·) → Rises (compA l)
  | [], _ => by simp [compA, Rises]
  | [x], _ => by simp [compA, Rises]
  | x :: y :: l, h => by
    rw [List.pairwise_cons] at h
    rw [compA]
    split
    · exact rises_compA h.2
    · unfold Rises
      rw [List.pairwise_cons]
      refine ⟨fun z hz => ?_, rises_compA h.2⟩
      rw [mem_compA] at hz
      rcases List.mem_cons.1 hz with rfl | hz'
      · have := h.1 z (by simp); omega
      · have h1 := h.1 y (by simp)
        rw [List.pairwise_cons] at h
        have h2 := h.2.1 z hz'
        omega
theorem comp_asc {l s : List Int} (hp : ∀ x, x ∈ s ↔ x ∈ l) (hs : s.Pairwise (· ≤ ·)) : compA s = ascA l := asc_of (rises_compA hs) fun x => mem_compA.trans (hp x)
end Go.Proofs.Ytnmbmdigiaokjaa
