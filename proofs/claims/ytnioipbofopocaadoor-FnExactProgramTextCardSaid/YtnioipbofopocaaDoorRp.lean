/- From the reading of a program argument to what the walks ask. Conditions: none. -/
import Derived.Test.YtnioipbofopocaaDoorRg
import Derived.Test.YtnioipbofopocaaDoorLw
namespace Go.Proofs.YtnioipbofopocaaDoor
open Go.RowKit SL Go.ChangeShapes Go.WideShapes Go.ChangeAt
set_option linter.unusedVariables false

section
variable {H : Type} {enc : TypeId × Value → H} {W : World} {sp : Nat → Bool} {held : Bool}
theorem cells_lstep : Tryd.prog.cellsOf 138 = 3 := by kernel_rfl
theorem cells_lbody : Tryd.prog.cellsOf 114 = 1 := by kernel_rfl
theorem cells_lbodies : Tryd.prog.cellsOf 53 = 1 := by kernel_rfl
theorem cells_lprog : Tryd.prog.cellsOf 55 = 1 := by kernel_rfl

theorem readStep {n : Nat} {cs : List Value} {y : DataW H × List MemPlace} (h : DataW.trod enc Tryd.prog W 0 sp held n 138 cs = some y) : ∃ s : St, cs = cSt s := by
  obtain ⟨xs, m, _, rfl, hl, hlen, hf⟩ := DataW.trod_struct Tryd.underlying138 h
  rw [cells_lstep] at hl
  obtain ⟨a, b, c, rfl⟩ := len3 hl
  obtain ⟨y0, e0⟩ := get_ex (xs := xs) (k := 0) (by rw [hlen]; decide)
  obtain ⟨y1, e1⟩ := get_ex (xs := xs) (k := 1) (by rw [hlen]; decide)
  obtain ⟨y2, e2⟩ := get_ex (xs := xs) (k := 2) (by rw [hlen]; decide)
  have h0 : DataW.trod enc Tryd.prog W 0 sp held m 3 (([a, b, c].drop 0).take (Tryd.prog.cellsOf 3)) = some y0 := (hf 0 _ rfl).trans e0
  have h1 : DataW.trod enc Tryd.prog W 0 sp held m 3 (([a, b, c].drop 1).take (Tryd.prog.cellsOf 3)) = some y1 := (hf 1 _ rfl).trans e1
  have h2 : DataW.trod enc Tryd.prog W 0 sp held m 3 (([a, b, c].drop 2).take (Tryd.prog.cellsOf 3)) = some y2 := (hf 2 _ rfl).trans e2
  clear e0 e1 e2
  rw [cells_int] at h0 h1 h2
  simp only [List.drop_zero, List.take_succ_cons, List.take_zero, List.drop_succ_cons] at h0 h1 h2
  obtain ⟨i, e0, _⟩ := DataW.trod_int Tryd.underlying3 h0
  obtain ⟨j, e1, _⟩ := DataW.trod_int Tryd.underlying3 h1
  obtain ⟨k, e2, _⟩ := DataW.trod_int Tryd.underlying3 h2
  injection e0 with e0 _
  injection e1 with e1 _
  injection e2 with e2 _
  subst e0; subst e1; subst e2
  exact ⟨⟨i, j, k⟩, rfl⟩
theorem readBody {n : Nat} {v : Value} {y : DataW H × List MemPlace} (h : DataW.trod enc Tryd.prog W 0 sp held n 114 [v] = some y) :
    ∃ x : Bd, v = .slice x.p x.l.length x.c ∧ x.l.length ≤ maxLen ∧ Rd (old W) x.p (cSts x.l) := by
  rcases Go.Deep.open_slice Tryd.underlying114 h with ⟨e, _⟩ | ⟨a, len, cap, m, q, D, Pl, e, _, hl, hm, hmm, _, hx⟩
  · injection e with e _
    exact ⟨⟨none, 0, []⟩, e, Nat.zero_le _, Rd.nil _ _⟩
  · injection e with e _
    rw [cells_lstep] at hx
    have hle : len ≤ m := by rw [hmm]; split <;> omega
    obtain ⟨l, hll, hp⟩ := list_of (fun i (s : St) => ∀ j u, (cSt s)[j]? = some u → W.cell? ((a.add (i * 3)).add j) = some u) len (fun i hi => by
      obtain ⟨cs, hc, ht⟩ := hx i (by omega)
      obtain ⟨s, rfl⟩ := readStep ht
      exact ⟨s, (cells_at hc).2⟩)
    refine ⟨⟨some a, cap, l⟩, by rw [hll]; exact e, by show l.length ≤ maxLen; rw [hll]; omega, Rd.of_old ?_⟩
    by_cases h0 : l = []
    · left; rw [h0]; rfl
    · right
      have hpos : 0 < l.length := List.length_pos_iff.2 h0
      obtain ⟨s, hs⟩ := get_ex hpos
      have hc0 := hp 0 s hs 0 (.int .i64 s.k) rfl
      rw [Nat.zero_mul, add_zero', add_zero'] at hc0
      refine ⟨a.block, a.off, by rw [← spot_none hc0], World.block_lt_of_cell? W a hc0, ?_⟩
      refine flat_all (f := cSt) (k := 3) (by omega) (fun _ => rfl) (Q := fun j u => W.cell? ⟨a.block, a.off + j, none⟩ = some u) (fun i x hix r u hu => ?_)
      have := hp i x hix r u hu
      rw [spot_none hc0, add_lit, add_lit] at this
      rw [Nat.add_assoc] at this
      exact this

set_option maxRecDepth 100000 in
theorem readP {v : Value} {d : DataW H} {ps : List MemPlace} {base : Nat} {r : Reach} (hv : Value.okWide Tryd.prog W r base 55 v) (h : DataW.Trod enc Tryd.prog W 0 sp held 55 v d ps) :
    ∃ (A : Option Addr) (c : Nat) (bs : List Bd), v = .agg #[.slice A bs.length c] ∧ ArgP (old W) A bs := by
  obtain ⟨cs, rfl, hsz⟩ := okWide_struct Tryd.underlying55 hv
  rw [cells_lprog] at hsz
  obtain ⟨fuel, hf⟩ := h
  obtain ⟨y0, n, _, _, h0⟩ := trod_struct1 Tryd.underlying55 hf
  obtain ⟨x, rfl⟩ : ∃ x, cs = #[x] := by
    obtain ⟨l⟩ := cs
    match l, hsz with
    | [x], _ => exact ⟨x, rfl⟩
  simp only [Value.cells, cells_lbodies, List.drop_zero, List.take_succ_cons, List.take_zero] at h0
  rcases Go.Deep.open_slice1 Tryd.underlying53 cells_lbody h0 with ⟨e, _⟩ | ⟨a, len, cap, m, q, V, D, Pl, e, _, hl, hm, hmm, _, hx⟩
  · injection e with e _
    exact ⟨none, 0, [], by rw [e]; rfl, ⟨Rd.nil _ _, (fun x hx => by cases hx), (fun x hx => by cases hx), Nat.zero_le _⟩⟩
  · injection e with e _
    have hle : len ≤ m := by rw [hmm]; split <;> omega
    obtain ⟨l, hll, hp⟩ := list_of (fun i (x : Bd) => W.cell? (a.add i) = some (.slice x.p x.l.length x.c) ∧ x.l.length ≤ maxLen ∧ Rd (old W) x.p (cSts x.l)) len (fun i hi => by
      obtain ⟨hc, ht⟩ := hx i (by omega)
      obtain ⟨x, hv, h1, h2⟩ := readBody ht
      exact ⟨x, by rw [← hv]; exact hc, h1, h2⟩)
    refine ⟨some a, cap, l, by rw [e, hll], ⟨Rd.of_old ?_, fun x hx => ?_, fun x hx => ?_, by rw [hll]; omega⟩⟩
    · by_cases h0 : l = []
      · left; rw [h0]; rfl
      · right
        have hpos : 0 < l.length := List.length_pos_iff.2 h0
        obtain ⟨s, hs⟩ := get_ex hpos
        have hc0 := (hp 0 s hs).1
        rw [add_zero'] at hc0
        refine ⟨a.block, a.off, by rw [← spot_none hc0], World.block_lt_of_cell? W a hc0, fun j u hj => ?_⟩
        obtain ⟨x, hx⟩ := get_ex (xs := l) (k := j) (by have := (List.getElem?_eq_some_iff.1 hj).1; rwa [cBds_len] at this)
        rw [cBds_get hx] at hj
        have := (hp j x hx).1
        rw [spot_none hc0, add_lit] at this
        rw [this, hj]
    · obtain ⟨i, hi⟩ := List.getElem?_of_mem hx
      exact (hp i x hi).2.2
    · obtain ⟨i, hi⟩ := List.getElem?_of_mem hx
      exact (hp i x hi).2.1
set_option maxRecDepth 100000 in
theorem readStepV {v : Value} {d : DataW H} {ps : List MemPlace} {base : Nat} {r : Reach} (hv : Value.okWide Tryd.prog W r base 138 v) (h : DataW.Trod enc Tryd.prog W 0 sp held 138 v d ps) :
    ∃ s : St, v = .agg #[.int .i64 s.k, .int .i64 s.a, .int .i64 s.b] := by
  obtain ⟨cs, rfl, hsz⟩ := okWide_struct Tryd.underlying138 hv
  obtain ⟨fuel, hf⟩ := h
  obtain ⟨s, hs⟩ := readStep hf
  refine ⟨s, ?_⟩
  simp only [Value.cells] at hs
  have : cs = (cSt s).toArray := by rw [← hs]
  rw [this]
  rfl
end
end Go.Proofs.YtnioipbofopocaaDoor
