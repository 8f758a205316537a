/- Pairs that a run tells: pairs by a closure's contract; ResultsOf. Conditions: lengths within bounds. -/
import Derived.Test.YtobikkdnalnllaaQk
import Derived.Test.YtobikkdnalnllaaQc
namespace Go.Proofs.Ytobikkdnalnllaa
open Go.RowKit SL
attribute [local go_sem] cell_blk frozen_blk lt_blk cell_at frozen_row lt_row
set_option linter.unusedVariables false
set_option linter.unusedSimpArgs false

def flat2 (l : List (Int × Int)) : List Int := l.flatMap (fun p => [p.1, p.2])
theorem flat2_len (l : List (Int × Int)) : (flat2 l).length = l.length * 2 := flat_len (f := fun p : Int × Int => [p.1, p.2]) (fun _ => rfl) l
theorem cPr_flat (l : List (Int × Int)) : cPr l = ints (flat2 l) := by
  unfold cPr ints flat2
  rw [List.map_flatMap]
  rfl
/-- A row of pairs beside a bool. -/
def A2Ok (S : HP) (l : List (Int × Int)) (ok : Bool) (w : World) (e : Ending) (w' : World) : Prop := ∃ A c, e = two (.slice A l.length c) (.bool ok) ∧ Post w (Row 112 2 (.slice A l.length c) l.length (ints (flat2 l)) * S) w'
theorem A2Ok.of {S : HP} {l : List (Int × Int)} {ok : Bool} {w w' : World} {v : Value} (h : Post w (Row 112 2 v l.length (cPr l) * S) w') : A2Ok S l ok w (two v (.bool ok)) w' := by
  obtain ⟨A, c, rfl, _⟩ := Row.form h.sep
  rw [cPr_flat] at h
  exact ⟨A, c, rfl, h⟩
theorem A2Ok.nil {S : HP} {ok : Bool} {w w' : World} {v : Value} (h : Post w (Row 112 2 v 0 [] * S) w') : A2Ok S [] ok w (two v (.bool ok)) w' := A2Ok.of (l := []) h
/-- The pairs of the events of which something holds. -/
def pairN (p : Nat → Ev → Bool) (t : List Ev) : Nat → List (Int × Int)
  | 0 => []
  | i + 1 => pairN p t i ++ (match t[i]? with | some e => if p i e then [(e.f, e.v)] else [] | none => [])
theorem pairN_yes {p : Nat → Ev → Bool} {t : List Ev} {i : Nat} {e : Ev} (h : t[i]? = some e) (hp : p i e = true) : pairN p t (i + 1) = pairN p t i ++ [(e.f, e.v)] := by
  show pairN p t i ++ (match t[i]? with | some e => if p i e then [(e.f, e.v)] else [] | none => []) = _
  rw [h]; simp only; rw [hp]; rfl
theorem pairN_no {p : Nat → Ev → Bool} {t : List Ev} {i : Nat} {e : Ev} (h : t[i]? = some e) (hp : p i e = false) : pairN p t (i + 1) = pairN p t i := by
  show pairN p t i ++ (match t[i]? with | some e => if p i e then [(e.f, e.v)] else [] | none => []) = _
  rw [h]; simp only; rw [hp]; exact List.append_nil _
theorem pairN_len (p : Nat → Ev → Bool) (t : List Ev) : ∀ i, (pairN p t i).length ≤ i
  | 0 => Nat.le_refl _
  | i + 1 => by
    have := pairN_len p t i
    show (pairN p t i ++ (match t[i]? with | some e => if p i e then [(e.f, e.v)] else [] | none => [])).length ≤ _
    rw [List.length_append]
    split
    · split
      · show _ + 1 ≤ _; omega
      · show _ + 0 ≤ _; omega
    · show _ + 0 ≤ _; omega
/-- The same out of a list that goes along. -/
theorem pairN_fm {γ : Type} {p : Nat → Ev → Bool} {t : List Ev} {l : List γ} {g : γ → Option (Int × Int)} (hl : l.length = t.length) (hg : ∀ (i : Nat) (e : Ev) (x : γ), t[i]? = some e → l[i]? = some x → g x = if p i e then some (e.f, e.v) else none) :
    ∀ i, i ≤ t.length → pairN p t i = (l.take i).filterMap g
  | 0, _ => rfl
  | i + 1, hi => by
    obtain ⟨e, he⟩ := get_ex (xs := t) (k := i) (by omega)
    obtain ⟨x, hx⟩ := get_ex (xs := l) (k := i) (by omega)
    have ih := pairN_fm hl hg i (by omega)
    have h := hg i e x he hx
    cases hp : p i e with
    | true => rw [pairN_yes he hp, ih, fm_yes hx (by rw [h, hp]; rfl)]
    | false => rw [pairN_no he hp, ih, fm_no hx (by rw [h, hp]; rfl)]
theorem pairN_all {γ : Type} {p : Nat → Ev → Bool} {t : List Ev} {l : List γ} {g : γ → Option (Int × Int)} (hl : l.length = t.length) (hg : ∀ (i : Nat) (e : Ev) (x : γ), t[i]? = some e → l[i]? = some x → g x = if p i e then some (e.f, e.v) else none) :
    pairN p t t.length = l.filterMap g := by rw [pairN_fm hl hg _ (Nat.le_refl _), List.take_of_length_le (by omega)]
/-- What a closure is asked that picks events. -/
def PairP (S0 : HP) (R : Run) (g : Nat) (lb : Array Value) (p : Nat → Ev → Bool) : Prop :=
  ∀ (i : Nat) (ev : Ev), R.m.trace[i]? = some ev → ∀ (X : HP) (W : World), SepI W (X * S0) →
    Calls Try.prog g (#[.int .i64 (i : Int), .agg #[.int .i64 ev.k, .int .i64 ev.f, .int .i64 ev.v]] ++ lb) W fun e w' => e = .returned (.bool (p i ev)) ∧ Post W (X * S0) w'
def ok_ResultsOf (L : List (List St)) (fn arg fuel : Int) : Bool := askB L fn arg fuel
def ans_ResultsOf (L : List (List St)) (fn arg fuel : Int) : List (Int × Int) := if askB L fn arg fuel then resA (ranM L fn arg fuel.toNat).m.trace else []
theorem ans_ResultsOf_yes {L : List (List St)} {fn arg : Int} {fu : Nat} (h : askB L fn arg fu = true) : ans_ResultsOf L fn arg fu = resA (ranM L fn arg fu).m.trace := by unfold ans_ResultsOf; rw [if_pos h]; rfl
theorem ans_ResultsOf_no {L : List (List St)} {fn arg fuel : Int} (h : askB L fn arg fuel = false) : ans_ResultsOf L fn arg fuel = [] := by unfold ans_ResultsOf; rw [h]; rfl
theorem small_ResultsOf (L : List (List St)) (fn arg fuel : Int) : (ans_ResultsOf L fn arg fuel).length ≤ 1048576 := by
  obtain ⟨v, hv⟩ : ∃ v, askB L fn arg fuel = v := ⟨_, rfl⟩
  cases v
  · rw [ans_ResultsOf_no hv]; simp
  · obtain ⟨fu, rfl⟩ : ∃ fu : Nat, fuel = fu := ⟨fuel.toNat, by have := (askB_of hv).2.2.2.1; omega⟩
    rw [ans_ResultsOf_yes hv]
    have FF := factsB hv
    have hts := FF.ts
    have := fm_len' resF (ranM L fn arg fu).m.trace; unfold resA; omega
end Go.Proofs.Ytobikkdnalnllaa
