/- From the readings of arguments to what the walks ask: what all of them share; ints. Conditions: none. -/
import Derived.Test.YtnioipbofopocaaDoorRows
import Derived.Test.YtnioipbofopocaaDoorIn
import Derived.WalkKit
import Derived.ProofKit
import Derived.OpenShut
import Derived.ShutString
import Derived.ChangeOld
import Derived.DataReads
import Derived.SizedLaws
import Derived.Deep.Slices
namespace Go.Proofs.YtnioipbofopocaaDoor
open Go.RowKit SL Go.ChangeShapes Go.WideShapes Go.ChangeAt
set_option linter.unusedVariables false

theorem below_of_post {W W' : World} (h : Post W (old W) W') : Below W.heap.size W W' := by
  have e : ExtI W W' := h.ext W
  refine ⟨e.os, e.tape, e.output, e.size, fun k hk => ?_⟩
  obtain ⟨p, hp, q⟩ := h.sep.out
  have h1 := hp k hk
  rw [Array.getElem?_eq_getElem hk] at h1 ⊢
  exact q k _ h1
theorem list_of {α : Type} (p : Nat → α → Prop) : ∀ (n : Nat), (∀ i, i < n → ∃ x, p i x) → ∃ l : List α, l.length = n ∧ ∀ i x, l[i]? = some x → p i x
  | 0, _ => ⟨[], rfl, fun i x h => by simp at h⟩
  | n + 1, h => by
    obtain ⟨l, hl, hp⟩ := list_of p n (fun i hi => h i (by omega))
    obtain ⟨x, hx⟩ := h n (by omega)
    refine ⟨l ++ [x], by simp [hl], fun i y hy => ?_⟩
    by_cases hi : i < n
    · rw [List.getElem?_append_left (by omega)] at hy
      exact hp i y hy
    · rw [List.getElem?_append_right (by omega), hl] at hy
      have : i = n := by
        have := (List.getElem?_eq_some_iff.1 hy).1
        simp at this
        omega
      subst this
      simp at hy
      subst hy
      exact hx
theorem flat_all {α β : Type} {f : α → List β} {k : Nat} (hk : 0 < k) (hf : ∀ x, (f x).length = k) {l : List α} {Q : Nat → β → Prop} (h : ∀ i x, l[i]? = some x → ∀ q u, (f x)[q]? = some u → Q (i * k + q) u) :
    ∀ j u, (l.flatMap f)[j]? = some u → Q j u := by
  intro j u hj
  have hlen := flat_len hf l
  have hjl := (List.getElem?_eq_some_iff.1 hj).1
  have hd := Nat.div_add_mod j k
  have hm := Nat.mod_lt j hk
  have hjk : j / k < l.length := Nat.div_lt_of_lt_mul (by rw [Nat.mul_comm]; omega)
  obtain ⟨x, hx⟩ := get_ex hjk
  have := flat_get hf hx (j % k) hm
  rw [show j / k * k + j % k = j from by rw [Nat.mul_comm]; omega, hj] at this
  have := h _ x hx (j % k) u this.symm
  rwa [show j / k * k + j % k = j from by rw [Nat.mul_comm]; omega] at this

section
variable {H : Type} {enc : TypeId × Value → H} {W : World} {sp : Nat → Bool} {held : Bool}
theorem cells_at {a : Addr} {n : Nat} {cs : List Value} (h : W.cells? 0 a n = some cs) : cs.length = n ∧ ∀ j u, cs[j]? = some u → W.cell? (a.add j) = some u := by
  obtain ⟨_, hl, hc⟩ := World.cells?_some h
  refine ⟨hl, fun j u hj => ?_⟩
  rw [hc j (by rw [← hl]; exact (List.getElem?_eq_some_iff.1 hj).1), hj]
theorem cells_int : Tryd.prog.cellsOf 3 = 1 := by kernel_rfl
theorem add_lit (b o n : Nat) : (⟨b, o, none⟩ : Addr).add n = ⟨b, o + n, none⟩ := by unfold Addr.add; split <;> simp_all
theorem spot_none {a : Addr} {v : Value} (h : W.cell? a = some v) : a = ⟨a.block, a.off, none⟩ := by
  obtain ⟨b, o, s⟩ := a
  cases s with
  | none => rfl
  | some s => unfold World.cell? at h; split at h <;> simp at h
theorem add_zero' (a : Addr) : a.add 0 = a := by simp [Addr.add]


theorem len3 {cs : List Value} (h : cs.length = 3) : ∃ a b c, cs = [a, b, c] := by
  match cs, h with
  | [a, b, c], _ => exact ⟨a, b, c, rfl⟩
theorem readInts {n : Nat} {v : Value} {y : DataW H × List MemPlace} (h : DataW.trod enc Tryd.prog W 0 sp held n 95 [v] = some y) :
    ∃ (A : Option Addr) (c : Nat) (l : List Int), v = .slice A l.length c ∧ l.length ≤ maxLen ∧ l.length ≤ c ∧ Rd (old W) A (ints l) := by
  rcases Go.Deep.open_slice1 Tryd.underlying95 cells_int h with ⟨e, _⟩ | ⟨a, len, cap, m, q, V, D, Pl, e, _, hl, hm, hmm, _, hx⟩
  · injection e with e _
    exact ⟨none, 0, [], e, Nat.zero_le _, Nat.zero_le _, Rd.nil _ _⟩
  · injection e with e _
    have hle : len ≤ m := by rw [hmm]; split <;> omega
    obtain ⟨l, hll, hp⟩ := list_of (fun i (x : Int) => W.cell? (a.add i) = some (.int .i64 x)) len (fun i hi => by
      obtain ⟨hc, ht⟩ := hx i (by omega)
      obtain ⟨x, e, _⟩ := DataW.trod_int Tryd.underlying3 ht
      injection e with e _
      exact ⟨x, by rw [← e]; exact hc⟩)
    refine ⟨some a, cap, l, by rw [e, hll], by rw [hll]; omega, by rw [hll]; exact hl, Rd.of_old ?_⟩
    by_cases h0 : l = []
    · left; rw [h0]; rfl
    · right
      have hpos : 0 < l.length := List.length_pos_iff.2 h0
      obtain ⟨s, hs⟩ := get_ex hpos
      have hc0 := hp 0 s hs
      rw [add_zero'] at hc0
      refine ⟨a.block, a.off, by rw [← spot_none hc0], World.block_lt_of_cell? W a hc0, fun j u hj => ?_⟩
      obtain ⟨x, hx⟩ := get_ex (xs := l) (k := j) (by have := (List.getElem?_eq_some_iff.1 hj).1; rwa [ints_len] at this)
      rw [ints_get hx] at hj
      have := hp j x hx
      rw [spot_none hc0, add_lit] at this
      rw [this, hj]
theorem int_bounds {a : Int} (h : (Lit.int .i64 a).wf = true) : -9223372036854775808 ≤ a ∧ a ≤ 9223372036854775807 := by
  have h' : IntKind.i64.min ≤ a ∧ a ≤ 9223372036854775807 := by simpa [Lit.wf] using h
  exact h'
end
end Go.Proofs.YtnioipbofopocaaDoor
