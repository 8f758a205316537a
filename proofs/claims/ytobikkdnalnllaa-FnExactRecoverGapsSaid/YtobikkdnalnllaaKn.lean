/- The program's machine: a call: plain lemmas. Conditions: lengths within bounds. -/
import Derived.Test.YtobikkdnalnllaaKm
namespace Go.Proofs.Ytobikkdnalnllaa
open Go.RowKit SL
attribute [local go_sem] cell_blk frozen_blk lt_blk cell_at frozen_row lt_row
set_option linter.unusedVariables false
set_option linter.unusedSimpArgs false

theorem Row.shrinkG {w : World} {g n c i size : Nat} {e : TypeId} {cs : List Value} {F : HP} (H : SepI w (Row e size (.slice (some ⟨g, 0, none⟩) n c) n cs * F)) (hi : i ≤ n) : SepI w (Row e size (.slice (some ⟨g, 0, none⟩) i c) i (cs.take (i * size)) * F) := by
  rcases Row.open H with ⟨hv, _⟩ | ⟨g', cap, cur, hv, hl, h1, h2, h3, h4, H'⟩
  · cases hv
  · injection hv with hA _ hc
    injection hA with hA
    injection hA with hA
    subst hA; subst hc
    have H3 := Row.close (size := size) (n := i) H' (Nat.le_trans hi h1) h2 h3
    have e : cs.take (i * size) = cur.toList.take (i * size) := by
      rw [← h4, List.take_take, Nat.min_eq_left (Nat.mul_le_mul_right _ hi)]
    rw [e]; exact H3
/-- The cell of the caller's number. -/
theorem par_cell (S : HP) (gp : Nat) (up : Value) (p : Fr) : CellAt (ParH (some (gp, up)) (some p) * S) gp 0 (.int .i64 (p.id : Int)) := ⟨fun w H => by
  have H : SepI w (FrH gp up p * S) := H
  obtain ⟨x, hx, H1⟩ := FrH.open H
  unfold FrC at H1
  exact (@cell_blk w _ gp 0 _ _ _ H1 inferInstance).trans rfl⟩
/-- Behind a body: the deferred calls. -/
structure InR (P : Ma → List Fr → Prop) (call : CallM) (R : Out Fr) (st1 : List Fr) (d : Nat) (gk : Nat) (m : Ma) (f : Fr) : Prop where
  p : P m (f :: st1)
  len : f.runs.length = gk
  dep : m.depth + d = 8
  eq : runsM call gk m f = R
theorem InR.done {P : Ma → List Fr → Prop} {call : CallM} {R : Out Fr} {st1 : List Fr} {d gk : Nat} {m : Ma} {f : Fr} (h : InR P call R st1 d gk m f) (h0 : f.runs.length = 0) : R = .ok m f := by
  have := h.len
  obtain rfl : gk = 0 := by omega
  rw [← h.eq]; rfl
theorem InR.round {L : List (List St)} {fu : Nat} {P Q : Ma → List Fr → Prop} {F : Ma → Fr → List Fr → Prop} (A : Along2 L fu (TArg L) P Q F) (hdep : ∀ m st, P m st → m.depth = st.length) {call : CallM} (hc : CallOk2 L (TArg L) P Q F call) {R : Out Fr} {st1 : List Fr} {d gk k : Nat} {m : Ma} {f : Fr} (h : InR P call R st1 d gk m f) (hk : f.runs.length = k + 1)
    {o : Out (Option Fr × Fr)} (ho : call m (f.runs.getD k (0, 0)).1 (f.runs.getD k (0, 0)).2 (some { f with runs := f.runs.take k }) true = o) :
    k < gk ∧ SP L (TArg L) P Q m ({ f with runs := f.runs.take k } :: st1) (f.runs.getD k (0, 0)).1 (f.runs.getD k (0, 0)).2 true ∧ (∀ m2, o = .spent m2 → R = .spent m2) ∧
      (∀ m2 pf dd, o = .ok m2 (pf, dd) → ∃ x, pf = some { f with runs := f.runs.take k, regs := x } ∧ F m2 dd ({ f with runs := f.runs.take k, regs := x } :: st1) ∧ InR P call R st1 d k (behindM m2 { f with runs := f.runs.take k, regs := x } dd).1 (behindM m2 { f with runs := f.runs.take k, regs := x } dd).2) := by
  have hl := h.len
  have hd := h.dep
  obtain rfl : gk = k + 1 := by omega
  obtain ⟨h1, h2⟩ := along2_last A hc h.p hk
  have e := h.eq
  rw [runsM] at e
  simp only at e
  rw [ho] at e h2
  refine ⟨by omega, h1, fun m2 hx => by subst hx; exact e.symm, fun m2 pf dd hx => ?_⟩
  subst hx
  obtain ⟨x, rfl, hF, hdf, hP⟩ := h2
  refine ⟨x, rfl, hF, hP, ?_, ?_, ?_⟩
  · rw [(behind_keeps _ _ _).2.1]; simp; omega
  · have a := hdep _ _ hP
    have b := hdep _ _ h.p
    rw [(behind_keeps _ _ _).2.2.2.2] at a ⊢
    simp only [List.length_cons] at a b
    omega
  · exact e
theorem finishM_depth (m : Ma) (f : Fr) : (finishM m f).depth = m.depth := by
  unfold finishM
  simp only
  split <;> rfl
/-- A whole call out of its pieces. -/
def runO (par : Option Fr) : Out Fr → Out (Option Fr × Fr)
  | .spent m => .spent m
  | .ok m f => .ok { finishM m f with depth := (finishM m f).depth - 1 } (par, f)
def bodyO (call : CallM) : Out (Fr × Option Fr) → Out (Option Fr × Fr)
  | .spent m => .spent m
  | .ok m (f, par) => runO par (runsM call f.runs.length m f)
theorem callM_eq (L : List (List St)) (fuel d : Nat) (m : Ma) (fn arg : Int) (par : Option Fr) (df : Bool) : callM L fuel (d + 1) m fn arg par df = bodyO (callM L fuel d) (bodyM (callM L fuel d) L fuel (fuel + 1) (startM m fn arg par df).1 (startM m fn arg par df).2 par 0) := by
  rw [callM]
  simp only
  cases bodyM (callM L fuel d) L fuel (fuel + 1) (startM m fn arg par df).1 (startM m fn arg par df).2 par 0 with
  | spent m2 => rfl
  | ok m2 x =>
    obtain ⟨f, par2⟩ := x
    simp only [bodyO]
    cases runsM (callM L fuel d) f.runs.length m2 f with
    | spent m3 => rfl
    | ok m3 f3 => rfl
end Go.Proofs.Ytobikkdnalnllaa
