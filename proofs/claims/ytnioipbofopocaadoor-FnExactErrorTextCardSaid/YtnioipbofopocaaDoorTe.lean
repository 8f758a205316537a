/- What the listed tables of the library give the walks. Conditions: the row's own. -/
import Derived.Test.YtnioipbofopocaaDoorRows
import Derived.Test.YtnioipbofopocaaDoorRg
import Derived.Test.YtnioipbofopocaaDoorTa
import Derived.WalkKit
import Derived.ProofKit
import Derived.OpenShut
import Derived.ShutString
import Derived.ChangeOld
import Derived.DataReads
import Derived.SizedLaws
import Derived.LaidMore
import Derived.Lib.LaidTab
import Derived.Stop.LaidErr
import Derived.LaidByTextLater
import Derived.Stop.Joined
import Derived.Shelf.Vars
namespace Go.Proofs.YtnioipbofopocaaDoor
open Go.RowKit SL Go.ChangeShapes Go.WideShapes Go.ChangeAt
set_option linter.unusedVariables false
set_option linter.unusedSimpArgs false

theorem gPow : Tryd.prog.globalNamed "internal/strconv.uint64pow10" = some 3 := by kernel_rfl
theorem tPow : (Tryd.prog.globals[3]?).map (·.type) = some 159 := by kernel_rfl
theorem cPow : Tryd.prog.cellsOf 141 = 1 := by kernel_rfl
theorem nPow : Tryd.prog.cellsOf 159 = 20 := by kernel_rfl
theorem powData : (Rows.laid_internal_strconv_uint64pow10 : DataW Unit) = Lib.tabData .u64 Lib.pow10Tab := by rfl
/-- The powers of ten, at the head of what is left of the list. -/
theorem tab_of_met {W : World} {r : List (String × DataW Unit)} (h : laidMet Tryd.prog (("internal/strconv.uint64pow10", Rows.laid_internal_strconv_uint64pow10) :: r) W) : TabI (old W) :=
  TabI.of_old (Lib.tabIs_of_head gPow tPow Tryd.underlying159 Tryd.underlying141 cPow nPow (by rw [powData] at h; exact h))
/-- What lies in an old world's cell is still there. -/
theorem cell_old {W w : World} {a : Addr} {v : Value} (H : SepI w (old W)) (h : W.cell? a = some v) : w.cell? a = some v := by
  have hlt : a.block < W.heap.size := by
    rcases Nat.lt_or_ge a.block W.heap.size with h' | h'
    · exact h'
    · simp [World.cell?, Array.getElem?_eq_none h'] at h
  obtain ⟨p, hp, q⟩ := H.out
  have h1 := hp a.block hlt
  have h2 : w.heap[a.block]? = W.heap[a.block]? := by
    rw [Array.getElem?_eq_getElem hlt] at h1 ⊢
    exact q a.block _ h1
  rw [← h]
  simp only [World.cell?, h2]
theorem var_old {W w : World} {n : String} {cs : Array Value} (H : SepI w (old W)) (h : W.var? Tryd.prog n = some cs) : w.var? Tryd.prog n = some cs := by
  unfold World.var? at h ⊢
  cases hg : Tryd.prog.globalNamed n with
  | none => simp [hg] at h
  | some g =>
    simp only [hg, Option.bind_some] at h ⊢
    have hlt : g < W.heap.size := by
      rcases Nat.lt_or_ge g W.heap.size with h' | h'
      · exact h'
      · simp [Array.getElem?_eq_none h'] at h
    obtain ⟨p, hp, q⟩ := H.out
    have h1 := hp g hlt
    have h2 : w.heap[g]? = W.heap[g]? := by
      rw [Array.getElem?_eq_getElem hlt] at h1 ⊢
      exact q g _ h1
    rw [h2]
    exact h
/-- The first cell, out of the world's shape. -/
theorem first_cell {W : World} (h : W.ShapedOpen Tryd.prog) : ∃ m, W.cell? ⟨0, 0, none⟩ = some (.int .i64 m) :=
  cell_of_shapedOpen_int (zero := #[.int .i64 0]) (t := 3) (g := 0) h (of_decide_eq_true (by kernel_rfl)) (by kernel_rfl) rfl (by kernel_rfl) (by kernel_rfl) Tryd.underlying3
section
variable {Hx : Type} {enc : TypeId × Value → Hx}
/-- A row out of a contract that also asks for the world's shape. -/
theorem lift_shaped {a : Assume} {C : Checked} {os : Os} {f : FuncId} {fn : Func} {s : ChangeSpec} {cn : List PathCond} {ap fr ho ag : Bool} {X : World → Array Value → Prop}
    (keep : ∀ (w w' : World) (l : Array Value), w.heap = w'.heap → X w l → X w' l) (own : ownKnob C.prog.godebug = none) (started : os.Started) (noInit : C.prog.inits.idxOf? f = none) (hfn : C.prog.funcs[f]? = some fn)
    (wit : ∃ (w : World) (tape : Tape) (i : Input), w.os = os ∧ (w.forCall tape i).Shaped C.prog ∧ i.vars = [] ∧ Input.okWide C.prog (w.forCall tape i) .any w.heap.size f i ∧
      ((s.pre enc C.prog fn cn ap (w.forCall tape i).memory i.args ∧ X (w.forCall tape i).memory i.args) ∧ sizedMet enc C.prog fn (OpenSpec.ofChange s) ap (w.forCall tape i).memory i.args) ∧ a.holds C.prog (lone (Frame.enter C.prog f i.args .normal) [] (w.forCall tape i)))
    (body : ∀ (W : World) (base : Nat) (l : Array Value) (ds gs : List (DataW Hx)) (before : List MemPlace), W.ShapedOpen C.prog → X W l →
      (∀ (j : Nat) t v, fn.params[j]? = some t → l[j]? = some v → Value.okWide C.prog W .any base t v) → DataW.Whole enc C.prog fn.params.toList s.vars ap W l.toList ds gs before →
      (DataW.weightsEach C.prog (fn.params.toList ++ s.plain.varTypes C.prog) (ds ++ gs)).all (· ≤ reachBytes) = true →
      Calls C.prog f l W fun e W' => ∃ v, e = .returned v ∧ s.post enc C.prog fn ap fr ho ag W l v W') :
    ReturnsInHanded a C os f .any (fun w l => (s.pre enc C.prog fn cn ap w l ∧ X w l) ∧ sizedMet enc C.prog fn (OpenSpec.ofChange s) ap w l) (s.post enc C.prog fn ap fr ho ag) :=
  returnsInHanded_of_calls own started noInit wit fun w tape i _ shp _ ok pre _ => by
    obtain ⟨_, _, _, g, hg, _, _, _, _, val⟩ := ok
    obtain rfl : g = fn := Option.some.inj (hg.symm.trans hfn)
    obtain ⟨⟨⟨ds, gs, bf, wh, _⟩, x⟩, z⟩ := pre
    have x2 : X (w.forCall tape i) i.args := keep _ _ _ (by rfl) x
    have wh2 := DataW.Whole.of_heap (w' := w.forCall tape i) (by rfl) wh
    refine (body _ _ i.args ds gs bf shp x2 val wh2 (z.weights wh)).mono ?_
    rintro e W' ⟨v, rfl, po⟩
    exact ChangeSpec.post_blind po
end
end Go.Proofs.YtnioipbofopocaaDoor
