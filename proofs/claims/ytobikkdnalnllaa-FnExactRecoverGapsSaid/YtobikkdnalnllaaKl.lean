/- What holds in a call's body, by the program's way. Conditions: none; plain lemmas. -/
import Derived.Test.YtobikkdnalnllaaKk
namespace Go.Proofs.Ytobikkdnalnllaa
open Go.RowKit SL
set_option linter.unusedVariables false
set_option linter.unusedSimpArgs false
def outM {α : Type} : Out α → Ma
  | .spent m => m
  | .ok m _ => m
theorem pnSet_made (m : Ma) (k : Int) (g : Pn → Pn) : (pnSet m k g).made = m.made := rfl
theorem stepM_madeK (m : Ma) (f : Fr) (par : Option Fr) (s : St) : (stepM m f par s).1.made = m.made := by
  unfold stepM
  by_cases k1 : s.k = 1
  · rw [if_pos k1] <;> rfl
  rw [if_neg k1]
  by_cases k2 : s.k = 2
  · rw [if_pos k2] <;> rfl
  rw [if_neg k2]
  by_cases k3 : s.k = 3
  · rw [if_pos k3] <;> rfl
  rw [if_neg k3]
  by_cases k5 : s.k = 5
  · rw [if_pos k5] <;> rfl
  rw [if_neg k5]
  by_cases k6 : s.k = 6
  · rw [if_pos k6] <;> rfl
  rw [if_neg k6]
  by_cases k7 : s.k = 7
  · rw [if_pos k7]
    cases par with
    | none => rfl
    | some p => simp only; split <;> rfl
  rw [if_neg k7]
  by_cases k8 : s.k = 8
  · rw [if_pos k8] <;> rfl
  rw [if_neg k8]
  by_cases k9 : s.k = 9
  · rw [if_pos k9]
    cases par with
    | none => rfl
    | some p => simp only; split <;> rfl
  rw [if_neg k9]
  by_cases k10 : s.k = 10
  · rw [if_pos k10] <;> rfl
  rw [if_neg k10]
  by_cases k12 : s.k = 12
  · rw [if_pos k12] <;> rfl
  rw [if_neg k12]
  by_cases k13 : s.k = 13
  · rw [if_pos k13] <;> rfl
  rw [if_neg k13]
theorem behindM_made (m : Ma) (f d : Fr) : (behindM m f d).1.made = m.made := by
  unfold behindM
  simp only
  repeat' split
  all_goals rfl
theorem finishM_made (m : Ma) (f : Fr) : (finishM m f).made = m.made := by
  unfold finishM
  simp only
  split <;> rfl
def MonoC (call : CallM) : Prop := ∀ m fn arg par df, m.made ≤ (outM (call m fn arg par df)).made
theorem mono_body {call : CallM} (hc : MonoC call) (L : List (List St)) (fuel : Nat) : ∀ (n : Nat) (m : Ma) (f : Fr) (par : Option Fr) (at_ : Nat), m.made ≤ (outM (bodyM call L fuel n m f par at_)).made
  | 0, m, f, par, at_ => Nat.le_refl _
  | n + 1, m, f, par, at_ => by
    rw [bodyM]
    cases hs : (bodyOf L f.fn)[at_]? with
    | none => exact Nat.le_refl _
    | some s =>
      simp only
      split
      · exact Nat.le_refl _
      split
      · exact Nat.le_trans (Nat.le_succ _) (mono_body hc L fuel n { m with made := m.made + 1 } f par _)
      split
      · have h := hc { m with made := m.made + 1 } s.a (regAt f.regs s.b) (some f) false
        revert h
        cases call { m with made := m.made + 1 } s.a (regAt f.regs s.b) (some f) false with
        | spent m2 => exact fun h => Nat.le_trans (Nat.le_succ _) h
        | ok m2 x =>
          obtain ⟨pf, d⟩ := x
          intro h
          have h : m.made + 1 ≤ m2.made := h
          simp only
          split
          · exact Nat.le_trans (Nat.le_succ _) h
          · exact Nat.le_trans (Nat.le_trans (Nat.le_succ _) h) (mono_body hc L fuel n _ _ par _)
      · have h := stepM_madeK { m with made := m.made + 1 } f par s
        split
        · show m.made ≤ (stepM _ f par s).1.made
          rw [h]; exact Nat.le_succ _
        · refine Nat.le_trans ?_ (mono_body hc L fuel n _ _ _ _)
          rw [h]; exact Nat.le_succ _
theorem mono_runs {call : CallM} (hc : MonoC call) : ∀ (n : Nat) (m : Ma) (f : Fr), m.made ≤ (outM (runsM call n m f)).made
  | 0, m, f => Nat.le_refl _
  | n + 1, m, f => by
    rw [runsM]
    simp only
    have h := hc m (f.runs.getD n (0, 0)).1 (f.runs.getD n (0, 0)).2 (some { f with runs := f.runs.take n }) true
    revert h
    cases call m (f.runs.getD n (0, 0)).1 (f.runs.getD n (0, 0)).2 (some { f with runs := f.runs.take n }) true with
    | spent m2 => exact fun h => h
    | ok m2 x =>
      obtain ⟨pf, d⟩ := x
      intro h
      have h : m.made ≤ m2.made := h
      simp only
      refine Nat.le_trans ?_ (mono_runs hc n _ _)
      rw [behindM_made]; exact h
theorem mono_call (L : List (List St)) (fuel : Nat) : ∀ d : Nat, MonoC (callM L fuel d)
  | 0 => fun m fn arg par df => Nat.le_refl _
  | d + 1 => fun m fn arg par df => by
    rw [callM]
    simp only
    have h1 := mono_body (mono_call L fuel d) L fuel (fuel + 1) (startM m fn arg par df).1 (startM m fn arg par df).2 par 0
    have e1 : (startM m fn arg par df).1.made = m.made := rfl
    rw [e1] at h1
    revert h1
    cases bodyM (callM L fuel d) L fuel (fuel + 1) (startM m fn arg par df).1 (startM m fn arg par df).2 par 0 with
    | spent m2 => exact fun h => h
    | ok m2 x =>
      obtain ⟨f, par2⟩ := x
      intro h1
      have h1 : m.made ≤ m2.made := h1
      simp only
      have h2 := mono_runs (mono_call L fuel d) f.runs.length m2 f
      revert h2
      cases runsM (callM L fuel d) f.runs.length m2 f with
      | spent m3 => exact fun h => Nat.le_trans h1 h
      | ok m3 f3 =>
        intro h2
        have h2 : m2.made ≤ m3.made := h2
        show m.made ≤ (finishM m3 f3).made
        rw [finishM_made]; exact Nat.le_trans h1 h2
/-- In a body. -/
structure InB (L : List (List St)) (fu : Nat) (P : Ma → List Fr → Prop) (call : CallM) (R : Out (Fr × Option Fr)) (st0 : List Fr) (fn0 : Int) (d : Nat) (gk : Nat) (m : Ma) (f : Fr) (par : Option Fr) (at_ : Nat) : Prop where
  p : P m (f :: putHead par st0)
  sm : par.isSome = st0.head?.isSome
  en : f.en = 1
  fn : f.fn = fn0
  dep : m.depth + d = 8
  lt : fu < gk + m.made
  le : m.made ≤ fu
  eq : bodyM call L fu gk m f par at_ = R
section
variable {L : List (List St)} {fu : Nat} {P Q : Ma → List Fr → Prop} {F : Ma → Fr → List Fr → Prop} {call : CallM} {R : Out (Fr × Option Fr)} {st0 : List Fr} {fn0 : Int} {d gk : Nat} {m : Ma} {f : Fr} {par : Option Fr} {at_ : Nat} {s : St}
theorem InB.leave (h : InB L fu P call R st0 fn0 d gk m f par at_) (hs : (bodyOf L fn0)[at_]? = none) : R = .ok m (f, par) := by
  have := h.lt; have := h.le
  obtain ⟨k, rfl⟩ : ∃ k, gk = k + 1 := ⟨gk - 1, by omega⟩
  rw [← h.eq, bodyM, h.fn, hs]
theorem InB.stuck (h : InB L fu P call R st0 fn0 d gk m f par at_) (hs : (bodyOf L fn0)[at_]? = some s) (hm : m.made = fu) : R = .spent m := by
  have := h.lt; have := h.le
  obtain ⟨k, rfl⟩ : ∃ k, gk = k + 1 := ⟨gk - 1, by omega⟩
  rw [← h.eq, bodyM, h.fn, hs]
  simp only
  rw [if_pos hm]
theorem InB.jump (A : Along2 L fu (TArg L) P Q F) (h : InB L fu P call R st0 fn0 d gk m f par at_) (hs : (bodyOf L fn0)[at_]? = some s) (hm : m.made ≠ fu) (k11 : s.k = 11) :
    ∃ k, k < gk ∧ InB L fu P call R st0 fn0 d k { m with made := m.made + 1 } f par (if regAt f.regs s.b > 0 then s.a.toNat else at_ + 1) := by
  have h1 := h.lt; have h2 := h.le
  obtain ⟨k, rfl⟩ : ∃ k, gk = k + 1 := ⟨gk - 1, by omega⟩
  refine ⟨k, by omega, A.weak _ _ (A.made m f _ h.p hm ⟨s, by rw [h.fn]; exact List.mem_of_getElem? hs⟩), h.sm, h.en, h.fn, h.dep, by show fu < k + (m.made + 1); omega, by show m.made + 1 ≤ fu; omega, ?_⟩
  have e := h.eq
  rw [bodyM, h.fn, hs] at e
  simp only at e
  rw [if_neg hm, if_pos k11] at e
  exact e
theorem InB.made (A : Along2 L fu (TArg L) P Q F) (h : InB L fu P call R st0 fn0 d gk m f par at_) (hs : (bodyOf L fn0)[at_]? = some s) (hm : m.made ≠ fu) : Q { m with made := m.made + 1 } (f :: putHead par st0) :=
  A.made m f _ h.p hm ⟨s, by rw [h.fn]; exact List.mem_of_getElem? hs⟩
theorem InB.head (h : InB L fu P call R st0 fn0 d gk m f par at_) : (putHead par st0).head? = par := (putHead_tail par st0 h.sm).1
theorem InB.step (A : Along2 L fu (TArg L) P Q F) (hdep : ∀ m st, P m st → m.depth = st.length) (h : InB L fu P call R st0 fn0 d gk m f par at_) (hs : (bodyOf L fn0)[at_]? = some s) (hm : m.made ≠ fu) (k11 : s.k ≠ 11) (k4 : s.k ≠ 4)
    {q : Ma × Fr × Option Fr × Bool} (hq : stepM { m with made := m.made + 1 } f par s = q) : (q.2.2.2 = true → R = .ok q.1 (q.2.1, q.2.2.1)) ∧ (q.2.2.2 = false → ∃ k, k < gk ∧ InB L fu P call R st0 fn0 d k q.1 q.2.1 q.2.2.1 (at_ + 1)) := by
  have h1 := h.lt; have h2 := h.le
  obtain ⟨k, rfl⟩ : ∃ k, gk = k + 1 := ⟨gk - 1, by omega⟩
  have e := h.eq
  rw [bodyM, h.fn, hs] at e
  simp only at e
  rw [if_neg hm, if_neg k11, if_neg k4, hq] at e
  obtain ⟨q1, q2, q3, q4, q5⟩ := stepM_par { m with made := m.made + 1 } f par s
  have hp := A.step _ f (putHead par st0) s (h.made A hs hm) h.en (by rw [h.fn]; exact List.mem_of_getElem? hs) k4 k11
  rw [h.head, hq] at hp
  have hmd := stepM_madeK { m with made := m.made + 1 } f par s
  rw [hq] at q1 q2 q3 q4 hmd
  have hmd : q.1.made = m.made + 1 := hmd
  rw [putHead_put _ _ _ h.sm] at hp
  refine ⟨fun hb => ?_, fun hb => ⟨k, by omega, hp, q4.trans h.sm, q3 hb h.en, q2.trans h.fn, ?_, by omega, by omega, ?_⟩⟩
  · rw [hb, if_pos rfl] at e; exact e.symm
  · have a := hdep _ _ hp
    have b := hdep _ _ h.p
    have c : (putHead q.2.2.1 st0).length = (putHead par st0).length := by
      unfold putHead
      have : q.2.2.1.isSome = par.isSome := q4
      cases hx : q.2.2.1 <;> cases hy : par <;> simp_all
    have := h.dep
    simp only [List.length_cons] at a b
    omega
  · rw [hb, if_neg Bool.false_ne_true] at e; exact e
theorem InB.inn (A : Along2 L fu (TArg L) P Q F) (hdep : ∀ m st, P m st → m.depth = st.length) (hc : CallOk2 L (TArg L) P Q F call) (hmono : MonoC call) (hle : ∀ m st, P m st → m.made ≤ fu) (h : InB L fu P call R st0 fn0 d gk m f par at_) (hs : (bodyOf L fn0)[at_]? = some s) (hm : m.made ≠ fu) (k4 : s.k = 4)
    {o : Out (Option Fr × Fr)} (ho : call { m with made := m.made + 1 } s.a (regAt f.regs s.b) (some f) false = o) : (∀ m2, o = .spent m2 → R = .spent m2) ∧ (∀ m2 pf dd, o = .ok m2 (pf, dd) → ((innerM (pf.getD f) dd).2 = true → R = .ok m2 ((innerM (pf.getD f) dd).1, par)) ∧ ((innerM (pf.getD f) dd).2 = false → ∃ k, k < gk ∧ InB L fu P call R st0 fn0 d k m2 (innerM (pf.getD f) dd).1 par (at_ + 1))) := by
  have h1 := h.lt; have h2 := h.le
  obtain ⟨k, rfl⟩ : ∃ k, gk = k + 1 := ⟨gk - 1, by omega⟩
  have e := h.eq
  rw [bodyM, h.fn, hs] at e
  simp only at e
  rw [if_neg hm, if_neg (by omega), if_pos k4, ho] at e
  have hal := along2_inner A hc (h.made A hs hm) h.en (by rw [h.fn]; exact List.mem_of_getElem? hs) k4
  rw [ho] at hal
  have hmm := hmono { m with made := m.made + 1 } s.a (regAt f.regs s.b) (some f) false
  rw [ho] at hmm
  refine ⟨fun m2 hx => ?_, fun m2 pf dd hx => ?_⟩
  · subst hx; exact e.symm
  · subst hx
    obtain ⟨x, rfl, hF, hd, hP⟩ := hal
    have hmm : m.made + 1 ≤ m2.made := hmm
    simp only [Option.getD_some] at e ⊢
    have e1 : (innerM { f with regs := x } dd).1.fn = f.fn ∧ ((innerM { f with regs := x } dd).2 = false → (innerM { f with regs := x } dd).1.en = 1) := by
      unfold innerM
      simp only
      split
      · exact ⟨rfl, fun _ => h.en⟩
      · exact ⟨rfl, (fun h => by cases h)⟩
    refine ⟨fun hb => ?_, fun hb => ⟨k, by omega, hP, h.sm, e1.2 hb, e1.1.trans h.fn, ?_, by omega, hle _ _ hP, ?_⟩⟩
    · rw [hb, if_pos rfl] at e; exact e.symm
    · have a := hdep _ _ hP
      have b := hdep _ _ h.p
      have := h.dep
      simp only [List.length_cons] at a b
      omega
    · rw [hb, if_neg Bool.false_ne_true] at e; exact e
end
end Go.Proofs.Ytobikkdnalnllaa
