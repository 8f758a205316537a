/- What a whole run leaves, and the answers that are told of it. Conditions: none; plain lemmas. -/
import Derived.Test.YthnaoedlnificaaQj
namespace Go.Proofs.Ythnaoedlnificaa
open Go.RowKit SL
set_option linter.unusedVariables false
set_option linter.unusedSimpArgs false

structure Facts (R : Run) : Prop where
  r3 : ∃ now, read3 R.m.trace = some ⟨R.m.calls.map c5, R.m.owners, now⟩
  r4 : ∃ on, read4 R.m.trace = some (mk4 R.m on)
  len : R.m.owners.length = R.m.trace.length
  r5 : read5 R.m.trace R.m.owners = (R.m.recs.map (·.ca), agN R.m.panics)
  cs : CallsOk R.m
  rs : RecsOk R.m
  la : ∀ (k : Nat) p, R.m.panics[k]? = some p → -1 ≤ p.la ∧ p.la < (k : Int)
  ts : R.m.trace.length ≤ 1000
  bl : BL R.m
  arr : R.kind = 2 → ∃ (k : Nat) (p : Pn), R.m.panics[k]? = some p ∧ p.fa = 3 ∧ ∀ (j : Nat) (q : Pn), R.m.panics[j]? = some q → q.fa = 3 → j = k
  kd : 1 ≤ R.kind ∧ R.kind ≤ 4
theorem get_set_pn {m : Ma} {k : Int} {g : Pn → Pn} {j : Nat} {p : Pn} (h : (pnSet m k g).panics[j]? = some p) : (j = k.toNat ∧ p = g (pnAt m k) ∧ k.toNat < m.panics.length) ∨ (j ≠ k.toNat ∧ m.panics[j]? = some p) := by
  have h : (m.panics.set k.toNat (g (pnAt m k)))[j]? = some p := h
  by_cases e : j = k.toNat
  · left
    subst e
    have hl := (List.getElem?_eq_some_iff.1 h).1
    rw [List.length_set] at hl
    rw [List.getElem?_set_self hl] at h
    exact ⟨rfl, (Option.some.inj h).symm, hl⟩
  · right
    rw [List.getElem?_set_ne (Ne.symm e)] at h
    exact ⟨e, h⟩
theorem facts_of {L : List (List St)} (hL : ProgOk L) {fn arg : Int} (h1 : FnOk L fn) (h2 : n16 arg) {fu : Nat} (hfu : fu ≤ 200) : Facts (ranM L fn arg fu) := by
  have hb := along2_call (along2 hL fu) 8 (zeroM 0) [] fn arg false (.first (zero_QX L fu) ⟨h1, h2⟩)
  rw [show ([] : List Fr).head? = none from rfl] at hb
  rw [ranM_eq]
  revert hb
  cases callM L fu 8 (zeroM 0) fn arg none false with
  | spent m =>
    rintro ⟨st, ⟨⟨p1, p2⟩, _⟩, b, hw, nl, z⟩
    have hmade := p1.ma.made
    refine ⟨⟨_, p2.r3⟩, ⟨_, p2.r4⟩, p2.len, p2.r5, p1.cs, p1.rs, p1.ps.la, ?_, b, fun h => ?_, ?_⟩
    · show m.trace.length ≤ 1000; omega
    · have h : (4 : Int) = 2 := h
      omega
    · show (1 : Int) ≤ 4 ∧ (4 : Int) ≤ 4; omega
  | ok m x =>
    obtain ⟨par, f⟩ := x
    rintro ⟨⟨hF, b, hw, nl, fr⟩, g1, g2, g3⟩
    cases par with
    | some p => simp at g2
    | none =>
      have E : Ended L fu m f := hF.1
      have hmade := E.ma.made
      by_cases en : f.en = 2
      · have e : runOut (.ok m (none, f)) = ⟨pnSet m f.pa (fun x => { x with fa := 3 }), f.en, (m.calls.getD 0 ⟨0, 0, false, 0, 0, 0⟩).va⟩ := by
          show Run.mk _ _ _ = _
          rw [if_pos en]
        rw [e]
        obtain ⟨a1, a2⟩ := E.fr.pa en
        have r4 := E.r4
        rw [arrive_yes en] at r4
        refine ⟨⟨_, E.r3⟩, ⟨_, r4⟩, E.len, ?_, ⟨E.cs.up, E.cs.en⟩, ⟨fun r hr => ?_⟩, fun k p hk => ?_, ?_, ?_, fun _ => ?_, ?_⟩
        · show read5 m.trace m.owners = (_, agN (pnSet m f.pa (fun x => { x with fa := 3 })).panics)
          rw [agN_pn m f.pa (fun x => { x with fa := 3 }) (fun _ => rfl)]; exact E.r5
        · have := E.rs.ok r hr
          refine ⟨this.1, this.2.1, this.2.2.1, this.2.2.2.1, ?_⟩
          show r.pa.toNat < (pnSet m f.pa (fun x => { x with fa := 3 })).panics.length
          rw [P1.pans_len]; exact this.2.2.2.2
        · rcases get_set_pn hk with ⟨rfl, rfl, hl⟩ | ⟨_, h⟩
          · have hg : m.panics[f.pa.toNat]? = some (pnAt m f.pa) := by unfold pnAt; rw [List.getD_eq_getElem?_getD, List.getElem?_eq_getElem hl]; rfl
            have q := E.ps.la _ _ hg
            exact q
          · exact E.ps.la _ _ h
        · show m.trace.length ≤ 1000; omega
        · exact b.pn f.pa (fun x => { x with fa := 3 }) fun _ => rfl
        · refine ⟨f.pa.toNat, { pnAt m f.pa with fa := 3 }, List.getElem?_set_self a2, rfl, fun j q hj hq => ?_⟩
          rcases get_set_pn hj with ⟨rfl, _, _⟩ | ⟨_, h⟩
          · rfl
          · exact absurd hq (E.ps.fa q (List.mem_of_getElem? h)).2.2
        · show 1 ≤ f.en ∧ f.en ≤ 4; omega
      · have e : runOut (.ok m (none, f)) = ⟨m, f.en, (m.calls.getD 0 ⟨0, 0, false, 0, 0, 0⟩).va⟩ := by
          show Run.mk _ _ _ = _
          rw [if_neg en]
        rw [e]
        have r4 := E.r4
        rw [arrive_not en] at r4
        refine ⟨⟨_, E.r3⟩, ⟨_, r4⟩, E.len, E.r5, E.cs, E.rs, E.ps.la, ?_, b, fun h => absurd h en, ?_⟩
        · show m.trace.length ≤ 1000; omega
        · have := E.fr.en
          show 1 ≤ f.en ∧ f.en ≤ 4; omega
theorem factsB {L : List (List St)} {fn arg : Int} {fu : Nat} (h : askB L fn arg fu = true) : Facts (ranM L fn arg fu) := by
  obtain ⟨hL, h1, h2, h3, h4⟩ := askB_of h
  exact facts_of hL h1 h2 (by omega)
/-! Lists that are told in one go. -/
theorem fm_yes {α β : Type} {f : α → Option β} {l : List α} {i : Nat} {a : α} {b : β} (h : l[i]? = some a) (hf : f a = some b) : (l.take (i + 1)).filterMap f = (l.take i).filterMap f ++ [b] := by
  rw [take_succ_eq h, List.filterMap_append]; simp [hf]
theorem fm_no {α β : Type} {f : α → Option β} {l : List α} {i : Nat} {a : α} (h : l[i]? = some a) (hf : f a = none) : (l.take (i + 1)).filterMap f = (l.take i).filterMap f := by
  rw [take_succ_eq h, List.filterMap_append]; simp [hf]
theorem fm_len {α β : Type} (f : α → Option β) (l : List α) (i : Nat) : ((l.take i).filterMap f).length ≤ l.length := by
  have h1 := List.length_filterMap_le f (l.take i)
  have h2 : (l.take i).length ≤ l.length := by rw [List.length_take]; omega
  omega
theorem fm_len' {α β : Type} (f : α → Option β) (l : List α) : (l.filterMap f).length ≤ l.length := List.length_filterMap_le f l
/-- Numbers that are said. -/
def saidF (e : Ev) : Option Int := if e.k = 4 then some e.v else none
def saidA (t : List Ev) : List Int := t.filterMap saidF
/-- Functions and results of the calls that return. -/
def resF (e : Ev) : Option (Int × Int) := if e.k = 7 then some (e.f, e.v) else none
def resA (t : List Ev) : List (Int × Int) := t.filterMap resF
def upAt (cs : List C5) (k : Int) : Int := (cs.getD k.toNat ⟨0, 0, false, 0, 0⟩).up
def enAt (cs : List C5) (k : Int) : Int := (cs.getD k.toNat ⟨0, 0, false, 0, 0⟩).en
/-- What a call has deferred. -/
def defF (call : Int) (x : Ev × Int) : Option (Int × Int) := if x.1.k = 2 ∧ x.2 = call then some (x.1.f, x.1.v) else none
def defA (t : List Ev) (os : List Int) (call : Int) : List (Int × Int) := (t.zip os).filterMap (defF call)
/-- What a call has run. -/
def runF (cs : List C5) (call : Int) (x : Ev × Int) : Option (Int × Int) := if x.1.k = 3 ∧ upAt cs x.2 = call then some (x.1.f, x.1.v) else none
def runA (t : List Ev) (os : List Int) (cs : List C5) (call : Int) : List (Int × Int) := (t.zip os).filterMap (runF cs call)
/-- The calls that are saved. -/
def savF (cs : List C5) (x : Ev × Int) : Option Int := if x.1.k = 6 then some (upAt cs x.2) else none
def savA (t : List Ev) (os : List Int) (cs : List C5) : List Int := (t.zip os).filterMap (savF cs)
/-- How deep each call is. -/
def depS (out : List Int) (c : C5) : List Int := out ++ [if c.up < 0 then 1 else out.getD c.up.toNat 0 + 1]
def depA (cs : List C5) : List Int := cs.foldl depS []
theorem depA_len (cs : List C5) : (depA cs).length = cs.length := by
  have key : ∀ (l : List C5) (a : List Int), (l.foldl depS a).length = a.length + l.length := by
    intro l
    induction l with
    | nil => intro a; simp
    | cons x l ih => intro a; rw [List.foldl_cons, ih]; simp [depS]; omega
  have := key cs []
  simpa [depA] using this
theorem depA_snoc (cs : List C5) (c : C5) : depA (cs ++ [c]) = depS (depA cs) c := by unfold depA; rw [List.foldl_append]; rfl
/-- How many calls end in each way. -/
def endN (es : List Int) (k : Int) : Int := ((es.filter (· == k)).length : Nat)
/-- The calls that recoveries save, told both ways. -/
theorem read5_eq (t : List Ev) (o : List Int) : (read5 t o).1 = (t.zip o).filterMap (fun x => if x.1.k = 6 then some x.2 else none) := by
  have key : ∀ (l : List (Ev × Int)) (a : List Int × Int), (l.foldl step5 a).1 = a.1 ++ l.filterMap (fun x => if x.1.k = 6 then some x.2 else none) := by
    intro l
    induction l with
    | nil => intro a; simp
    | cons x l ih =>
      intro a
      rw [List.foldl_cons, ih]
      unfold step5
      by_cases h : x.1.k = 6
      · rw [if_pos h, List.filterMap_cons_some (b := x.2) (by simp [h])]; simp
      · rw [if_neg h, List.filterMap_cons_none (by simp [h])]
        split <;> rfl
  have := key (t.zip o) ([], 0)
  simpa [read5] using this
theorem sav_eq {R : Run} (F : Facts R) : savA R.m.trace R.m.owners (R.m.calls.map c5) = R.m.recs.map (·.sa) := by
  have h1 := read5_eq R.m.trace R.m.owners
  rw [F.r5] at h1
  have h2 : savA R.m.trace R.m.owners (R.m.calls.map c5) = ((R.m.trace.zip R.m.owners).filterMap (fun x => if x.1.k = 6 then some x.2 else none)).map (upAt (R.m.calls.map c5)) := by
    unfold savA
    rw [List.map_filterMap]
    congr 1
    funext x
    unfold savF
    by_cases h : x.1.k = 6
    · rw [if_pos h, if_pos h]; rfl
    · rw [if_neg h, if_neg h]; rfl
  rw [h2, ← h1, List.map_map]
  refine List.map_congr_left fun r hr => ?_
  obtain ⟨_, ⟨c, hc, hu⟩, _⟩ := F.rs.ok r hr
  show (((R.m.calls.map c5).getD r.ca.toNat _).up) = r.sa
  rw [List.getD_eq_getElem?_getD, List.getElem?_map, hc]
  exact hu
end Go.Proofs.Ythnaoedlnificaa
