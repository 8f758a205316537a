/- From the reading of an errors argument to what the walks ask. Conditions: none. -/
import Derived.Test.YtnioipbofopocaaDoorRg
import Derived.Test.YtnioipbofopocaaDoorAf
namespace Go.Proofs.YtnioipbofopocaaDoor
open Go.RowKit SL Go.ChangeShapes Go.WideShapes Go.ChangeAt
set_option linter.unusedVariables false

section
variable {H : Type} {enc : TypeId × Value → H} {W : World} {sp : Nat → Bool} {held : Bool}
theorem cells_lnode : Tryd.prog.cellsOf 97 = 3 := by kernel_rfl
theorem cells_ints : Tryd.prog.cellsOf 95 = 1 := by kernel_rfl
theorem cells_lnodes : Tryd.prog.cellsOf 35 = 1 := by kernel_rfl
theorem cells_lerrs : Tryd.prog.cellsOf 37 = 1 := by kernel_rfl
theorem readNode {n : Nat} {cs : List Value} {y : DataW H × List MemPlace} (h : DataW.trod enc Tryd.prog W 0 sp held n 97 cs = some y) : ∃ x : EN, cs = cEN x ∧ x.l.length ≤ maxLen ∧ Rd (old W) x.p (ints x.l) := by
  obtain ⟨xs, m, _, rfl, hl, hlen, hf⟩ := DataW.trod_struct Tryd.underlying97 h
  rw [cells_lnode] at hl
  obtain ⟨a, b, c, rfl⟩ := len3 hl
  obtain ⟨y0, e0⟩ := get_ex (xs := xs) (k := 0) (by rw [hlen]; decide)
  obtain ⟨y1, e1⟩ := get_ex (xs := xs) (k := 1) (by rw [hlen]; decide)
  obtain ⟨y2, e2⟩ := get_ex (xs := xs) (k := 2) (by rw [hlen]; decide)
  have h0 : DataW.trod enc Tryd.prog W 0 sp held m 3 (([a, b, c].drop 0).take (Tryd.prog.cellsOf 3)) = some y0 := (hf 0 _ rfl).trans e0
  have h1 : DataW.trod enc Tryd.prog W 0 sp held m 3 (([a, b, c].drop 1).take (Tryd.prog.cellsOf 3)) = some y1 := (hf 1 _ rfl).trans e1
  have h2 : DataW.trod enc Tryd.prog W 0 sp held m 95 (([a, b, c].drop 2).take (Tryd.prog.cellsOf 95)) = some y2 := (hf 2 _ rfl).trans e2
  clear e0 e1 e2
  rw [cells_int] at h0 h1
  rw [cells_ints] at h2
  simp only [List.drop_zero, List.take_succ_cons, List.take_zero, List.drop_succ_cons] at h0 h1 h2
  obtain ⟨i, e0, _⟩ := DataW.trod_int Tryd.underlying3 h0
  obtain ⟨j, e1, _⟩ := DataW.trod_int Tryd.underlying3 h1
  obtain ⟨A, cc, l, e2, hm, _, hr⟩ := readInts h2
  injection e0 with e0 _
  injection e1 with e1 _
  subst e0; subst e1; subst e2
  exact ⟨⟨i, j, A, cc, l⟩, rfl, hm, hr⟩

set_option maxRecDepth 100000 in
theorem readE {v : Value} {d : DataW H} {ps : List MemPlace} {base : Nat} {r : Reach} (hv : Value.okWide Tryd.prog W r base 37 v) (h : DataW.Trod enc Tryd.prog W 0 sp held 37 v d ps) :
    ∃ (A : Option Addr) (c : Nat) (es : List EN), v = .agg #[.slice A es.length c] ∧ ArgE (old W) A es := by
  obtain ⟨cs, rfl, hsz⟩ := okWide_struct Tryd.underlying37 hv
  rw [cells_lerrs] at hsz
  obtain ⟨fuel, hf⟩ := h
  obtain ⟨y0, n, _, _, h0⟩ := trod_struct1 Tryd.underlying37 hf
  obtain ⟨x, rfl⟩ : ∃ x, cs = #[x] := by
    obtain ⟨l⟩ := cs
    match l, hsz with
    | [x], _ => exact ⟨x, rfl⟩
  simp only [Value.cells, cells_lnodes, List.drop_zero, List.take_succ_cons, List.take_zero] at h0
  rcases Go.Deep.open_slice Tryd.underlying35 h0 with ⟨e, _⟩ | ⟨a, len, cap, m, q, D, Pl, e, _, hl, hm, hmm, _, hx⟩
  · injection e with e _
    exact ⟨none, 0, [], by rw [e]; rfl, ⟨Rd.nil _ _, (fun x hx => by cases hx), (fun x hx => by cases hx), Nat.zero_le _⟩⟩
  · injection e with e _
    rw [cells_lnode] at hx
    have hle : len ≤ m := by rw [hmm]; split <;> omega
    obtain ⟨l, hll, hp⟩ := list_of (fun i (x : EN) => (∀ j u, (cEN x)[j]? = some u → W.cell? ((a.add (i * 3)).add j) = some u) ∧ x.l.length ≤ maxLen ∧ Rd (old W) x.p (ints x.l)) len (fun i hi => by
      obtain ⟨cs, hc, ht⟩ := hx i (by omega)
      obtain ⟨x, rfl, h1, h2⟩ := readNode ht
      exact ⟨x, (cells_at hc).2, h1, h2⟩)
    refine ⟨some a, cap, l, by rw [e, hll], ⟨Rd.of_old ?_, fun x hx => ?_, fun x hx => ?_, by rw [hll]; omega⟩⟩
    · by_cases h0 : l = []
      · left; rw [h0]; rfl
      · right
        have hpos : 0 < l.length := List.length_pos_iff.2 h0
        obtain ⟨s, hs⟩ := get_ex hpos
        have hc0 := (hp 0 s hs).1 0 (.int .i64 s.k) rfl
        rw [Nat.zero_mul, add_zero', add_zero'] at hc0
        refine ⟨a.block, a.off, by rw [← spot_none hc0], World.block_lt_of_cell? W a hc0, ?_⟩
        refine flat_all (f := cEN) (k := 3) (by omega) (fun _ => rfl) (Q := fun j u => W.cell? ⟨a.block, a.off + j, none⟩ = some u) (fun i x hix r u hu => ?_)
        have := (hp i x hix).1 r u hu
        rw [spot_none hc0, add_lit, add_lit] at this
        rw [Nat.add_assoc] at this
        exact this
    · obtain ⟨i, hi⟩ := List.getElem?_of_mem hx
      exact (hp i x hi).2.2
    · obtain ⟨i, hi⟩ := List.getElem?_of_mem hx
      exact (hp i x hi).2.1
end
end Go.Proofs.YtnioipbofopocaaDoor
