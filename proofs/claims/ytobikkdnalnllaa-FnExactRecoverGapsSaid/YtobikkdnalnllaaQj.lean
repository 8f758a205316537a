/- The program's machine: ran. Conditions: lengths within bounds. -/
import Derived.Test.YtobikkdnalnllaaKr
namespace Go.Proofs.Ytobikkdnalnllaa
open Go.RowKit SL
attribute [local go_sem] cell_blk frozen_blk lt_blk cell_at frozen_row lt_row
set_option linter.unusedVariables false
set_option linter.unusedSimpArgs false
theorem RanP.open {S : HP} {A : Option Addr} {n c : Nat} {fuel : Int} {R : Run} {w : World} {e : Ending} {w' : World} (h : RanP S A n c fuel R w e w') : ∃ gm x, e = two (.pointer (some ⟨gm, 0, none⟩)) (.bool true) ∧ x.ps.map (·.p) = R.m.panics ∧ Post w (MachRC gm A n c fuel R.m R.kind R.val x S) w' := h
set_option maxRecDepth 100000 in
set_option maxHeartbeats 4000000 in
theorem impl_ranN (S : HP) (w : World) [H : SepI w S] (A : Option Addr) (c : Nat) (bs : List Bd) [r : Rd S A (cBds bs)] [B : Bodies S bs] (fn arg fuel : Int) (hv : askB (bs.map (·.l)) fn arg fuel = false) :
    Calls Try.prog 75 #[.agg #[.slice A bs.length c], .int .i64 fn, .int .i64 arg, .int .i64 fuel] w (RanN S w) := by
  have hbn := B.n
  have HV := Hd.mk hv
  clear hv
  go_enter Try.func75, Try.ntmps75
  go_wp2_with fail
  refine (impl_ranFromN (pts w.heap.size (.cells #[.slice A bs.length c] 31 (0, 0)) * S) _ A c bs fn arg fuel 0 HV.out).mono ?_
  rintro e w1 ⟨rfl, HP⟩
  have HS1 := HP.sep
  have HE1 := HP.ext
  clear HP
  go_wp2
  go_ret2
  exact ⟨rfl, Post.mk' (Ent.sep (S := _) (T := S) inferInstance inferInstance) inferInstance⟩
set_option maxRecDepth 100000 in
set_option maxHeartbeats 8000000 in
theorem impl_ranP (S : HP) (w : World) [H : SepI w S] (A : Option Addr) (c : Nat) (bs : List Bd) [r : Rd S A (cBds bs)] [B : Bodies S bs] (fn arg fuel : Int) (hp : progB (bs.map (·.l)) = true) (hq : inB fn 0 ((bs.length : Int) - 1) = true) (hu : inB arg (-32768) 32767 = true) (fu : Nat) (hfu : fuel = fu) (hv : inB fuel 0 200 = true) (L : List (List St)) (P Q : Ma → List Fr → Prop) (HC : ∀ gm, CallW L fu P Q gm A bs.length c bs 8) (hP0 : P (zeroM 0) []) (h1 : FnOk L fn) (h2 : n16 arg) (hE : EndO L fu (callM L fu 8 (zeroM 0) fn arg none false)) :
    Calls Try.prog 75 #[.agg #[.slice A bs.length c], .int .i64 fn, .int .i64 arg, .int .i64 fuel] w (RanP S A bs.length c fu (ranM L fn arg fu) w) := by
  have hbn := B.n
  obtain ⟨R, hR⟩ : ∃ R, ranM L fn arg fu = R := ⟨_, rfl⟩
  have HV : ∀ (S : HP) (w : World) [H : SepI w S] [r : Rd S A (cBds bs)] [B : Bodies S bs], Calls Try.prog 101 #[.agg #[.slice A bs.length c], .int .i64 fn, .int .i64 arg, .int .i64 fuel, .int .i64 0] w (RanP S A bs.length c fu R w) := by
    intro S w H r B
    rw [← hR]
    exact impl_ranFromP S w A c bs fn arg fuel 0 hp hq hu fu hfu hv rfl L P Q HC hP0 h1 h2 hE
  rw [hR]
  have HVV := Hd.mk HV
  clear HV hp hq hu hfu hv HC hP0 h1 h2 hE hR
  go_enter Try.func75, Try.ntmps75
  go_wp2_with fail
  refine (HVV.out (pts w.heap.size (.cells #[.slice A bs.length c] 31 (0, 0)) * S) _).mono ?_
  rintro e w1 ⟨gm, x, rfl, hps, HP⟩
  have HPS := Hd.mk hps
  clear hps
  have HS1 := HP.sep
  have HE1 := HP.ext
  clear HP
  unfold MachRC at HS1
  go_wp2
  go_ret2
  refine ⟨gm, x, rfl, HPS.out, Post.mk' ?_ inferInstance⟩
  unfold MachRC
  exact Ent.sep (S := _) inferInstance inferInstance
def wt : List Fr → Nat
  | [] => 0
  | f :: st => 2 * f.runs.length + 1 + wt st
theorem wt_mem {f : Fr} : ∀ {st : List Fr}, f ∈ st → 2 * f.runs.length + 1 ≤ wt st
  | g :: st, h => by
    rcases List.mem_cons.1 h with rfl | h
    · show _ ≤ 2 * f.runs.length + 1 + wt st; omega
    · have := wt_mem h
      show _ ≤ 2 * g.runs.length + 1 + wt st; omega
theorem wt_len : ∀ st : List Fr, st.length ≤ wt st
  | [] => Nat.le_refl _
  | f :: st => by
    have := wt_len st
    show st.length + 1 ≤ 2 * f.runs.length + 1 + wt st; omega
structure BL (m : Ma) : Prop where
  c : m.calls.length ≤ m.trace.length
  p : m.panics.length ≤ m.trace.length
  r : m.recs.length ≤ m.trace.length
  u : ∀ x ∈ m.panics, x.un.length ≤ m.trace.length
theorem pnAt_un {m : Ma} {n : Nat} (h : ∀ x ∈ m.panics, x.un.length ≤ n) (k : Int) : (pnAt m k).un.length ≤ n := by
  unfold pnAt
  rw [List.getD_eq_getElem?_getD]
  cases e : m.panics[k.toNat]? with
  | none => exact Nat.zero_le _
  | some v => exact h v (List.mem_of_getElem? e)
theorem BL.pn {m : Ma} (h : BL m) (k : Int) (g : Pn → Pn) (hg : ∀ x, (g x).un = x.un) : BL (pnSet m k g) := by
  refine ⟨h.c, ?_, h.r, fun x hx => ?_⟩
  · show (m.panics.set _ _).length ≤ _
    rw [List.length_set]; exact h.p
  · rcases List.mem_or_eq_of_mem_set hx with hx | rfl
    · exact h.u x hx
    · rw [hg]; exact pnAt_un h.u k
theorem tell_len (m : Ma) (k f v : Int) (o : Nat) : (tellM m k f v o).trace.length = m.trace.length + 1 := by
  show (m.trace ++ [_]).length = _
  rw [List.length_append]; rfl
theorem BL.tell {m : Ma} (h : BL m) (k f v : Int) (o : Nat) : BL (tellM m k f v o) := by
  have e := tell_len m k f v o
  refine ⟨?_, ?_, ?_, fun x hx => ?_⟩
  · show m.calls.length ≤ _; rw [e]; have := h.c; omega
  · show m.panics.length ≤ _; rw [e]; have := h.p; omega
  · show m.recs.length ≤ _; rw [e]; have := h.r; omega
  · have := h.u x hx; rw [e]; omega
theorem BL.start {m : Ma} (h : BL m) (fn arg : Int) (par : Option Fr) (df : Bool) : BL (startM m fn arg par df).1 ∧ (startM m fn arg par df).1.trace.length = m.trace.length + 1 ∧ (startM m fn arg par df).1.made = m.made ∧ (startM m fn arg par df).2.runs = [] ∧ (startM m fn arg par df).2.df = df := by
  have e : (startM m fn arg par df).1.trace.length = m.trace.length + 1 := tell_len _ _ _ _ m.calls.length
  refine ⟨⟨?_, ?_, ?_, fun x hx => ?_⟩, e, rfl, rfl, rfl⟩
  · show (m.calls ++ [_]).length ≤ _; rw [e, List.length_append]; have := h.c; show _ + 1 ≤ _; omega
  · show m.panics.length ≤ _; rw [e]; have := h.p; omega
  · show m.recs.length ≤ _; rw [e]; have := h.r; omega
  · have := h.u x hx; rw [e]; omega
theorem step_bound (m : Ma) (f : Fr) (par : Option Fr) (s : St) (h : BL m) : BL (stepM m f par s).1 ∧ (stepM m f par s).1.made = m.made ∧ (stepM m f par s).1.trace.length + 2 * (stepM m f par s).2.1.runs.length ≤ m.trace.length + 2 * f.runs.length + 3 := by
  have same : m.trace.length + 2 * f.runs.length ≤ m.trace.length + 2 * f.runs.length + 3 := by omega
  unfold stepM
  by_cases k1 : s.k = 1
  · rw [if_pos k1]; exact ⟨h, rfl, same⟩
  rw [if_neg k1]
  by_cases k2 : s.k = 2
  · rw [if_pos k2]; exact ⟨h, rfl, same⟩
  rw [if_neg k2]
  by_cases k3 : s.k = 3
  · rw [if_pos k3]; exact ⟨h.tell _ _ _ _, rfl, by show (tellM m 4 f.fn (regAt f.regs s.a) f.id).trace.length + 2 * f.runs.length ≤ _; rw [tell_len]; omega⟩
  rw [if_neg k3]
  by_cases k5 : s.k = 5
  · rw [if_pos k5]; exact ⟨h.tell _ _ _ _, rfl, by rw [tell_len]; show _ + 2 * (f.runs ++ [_]).length ≤ _; rw [List.length_append]; show _ + 2 * (_ + 1) ≤ _; omega⟩
  rw [if_neg k5]
  by_cases k6 : s.k = 6
  · rw [if_pos k6]
    have e : (tellM { m with panics := m.panics ++ [⟨f.id, f.fn, regAt f.regs s.a, m.depth, 0, -1, -1, f.ct, []⟩] } 5 f.fn (regAt f.regs s.a) f.id).trace.length = m.trace.length + 1 := tell_len _ _ _ _ _
    refine ⟨⟨?_, ?_, ?_, fun x hx => ?_⟩, rfl, ?_⟩
    · show m.calls.length ≤ _; rw [e]; have := h.c; omega
    · show (m.panics ++ [_]).length ≤ _; rw [e, List.length_append]; have := h.p; show _ + 1 ≤ _; omega
    · show m.recs.length ≤ _; rw [e]; have := h.r; omega
    · rw [e]
      rcases List.mem_append.1 hx with hx | hx
      · have := h.u x hx; omega
      · rw [List.mem_singleton] at hx; subst hx; exact Nat.zero_le _
    · rw [e]; show _ + 2 * f.runs.length ≤ _; omega
  rw [if_neg k6]
  by_cases k7 : s.k = 7
  · rw [if_pos k7]
    cases par with
    | none => exact ⟨h, rfl, same⟩
    | some p =>
      simp only
      split
      · have h1 := h.pn p.pa (fun x => { x with fa := 1 }) fun _ => rfl
        have e : (tellM { pnSet m p.pa (fun x => { x with fa := 1 }) with recs := m.recs ++ [⟨f.id, p.id, p.pa⟩] } 6 f.fn (pnAt m p.pa).va f.id).trace.length = m.trace.length + 1 := tell_len _ _ _ _ _
        refine ⟨⟨?_, ?_, ?_, fun x hx => ?_⟩, rfl, ?_⟩
        · show m.calls.length ≤ _; rw [e]; have := h.c; omega
        · show (pnSet m p.pa (fun x => { x with fa := 1 })).panics.length ≤ _; rw [e]; have : _ ≤ m.trace.length := h1.p; omega
        · show (m.recs ++ [_]).length ≤ _; rw [e, List.length_append]; have := h.r; show _ + 1 ≤ _; omega
        · have : _ ≤ m.trace.length := h1.u x hx
          rw [e]; omega
        · rw [e]; show _ + 2 * f.runs.length ≤ _; omega
      · exact ⟨h, rfl, same⟩
  rw [if_neg k7]
  by_cases k8 : s.k = 8
  · rw [if_pos k8]; exact ⟨h, rfl, same⟩
  rw [if_neg k8]
  by_cases k9 : s.k = 9
  · rw [if_pos k9]
    cases par with
    | none => exact ⟨h, rfl, same⟩
    | some p => simp only; split <;> exact ⟨h, rfl, same⟩
  rw [if_neg k9]
  by_cases k10 : s.k = 10
  · rw [if_pos k10]; exact ⟨h, rfl, same⟩
  rw [if_neg k10]
  by_cases k12 : s.k = 12
  · rw [if_pos k12]; exact ⟨⟨h.c, h.p, h.r, h.u⟩, rfl, same⟩
  rw [if_neg k12]
  by_cases k13 : s.k = 13
  · rw [if_pos k13]; exact ⟨h, rfl, same⟩
  rw [if_neg k13]; exact ⟨h, rfl, same⟩
theorem BL.done {m : Ma} (h : BL m) (d : Fr) : BL (doneM m d) ∧ (doneM m d).trace.length = m.trace.length + 1 ∧ (doneM m d).made = m.made := by
  obtain ⟨e1, e2, e3, e4, e5, e6, e7, e8⟩ := done_facts (m := m) (d := d)
  have e : (doneM m d).trace.length = m.trace.length + 1 := by rw [e1, List.length_append]; rfl
  refine ⟨⟨?_, ?_, ?_, fun x hx => ?_⟩, e, e4⟩
  · rw [e7, e, List.length_set]; have := h.c; omega
  · rw [e8, e]
    have := h.p
    split
    · show (m.panics.set _ _).length ≤ _; rw [List.length_set]; omega
    · omega
  · rw [e3, e]; have := h.r; omega
  · rw [e8] at hx
    rw [e]
    split at hx
    · rcases List.mem_or_eq_of_mem_set hx with hx | rfl
      · have := h.u x hx; omega
      · have := pnAt_un h.u d.pa
        show ((pnAt m d.pa).un ++ [_]).length ≤ _
        rw [List.length_append]; show _ + 1 ≤ _; omega
    · have := h.u x hx; omega
theorem BL.behind {m : Ma} (h : BL m) (f d : Fr) : BL (behindM m f d).1 ∧ (behindM m f d).1.trace = m.trace ∧ (behindM m f d).1.made = m.made ∧ (behindM m f d).2.runs = f.runs ∧ (behindM m f d).2.df = f.df := by
  unfold behindM
  simp only
  split
  · split
    · exact ⟨(h.pn f.pa (fun x => { x with fa := 2, by_ := d.pa }) fun _ => rfl).pn d.pa (fun x => { x with la := f.pa }) fun _ => rfl, rfl, rfl, rfl, rfl⟩
    · exact ⟨h, rfl, rfl, rfl, rfl⟩
  · split
    · split
      · exact ⟨h.pn f.pa (fun x => { x with fa := 4 }) fun _ => rfl, rfl, rfl, rfl, rfl⟩
      · exact ⟨h, rfl, rfl, rfl, rfl⟩
    · split
      · exact ⟨h, rfl, rfl, rfl, rfl⟩
      · split <;> exact ⟨h, rfl, rfl, rfl, rfl⟩
theorem inner_same (f d : Fr) : (innerM f d).1.runs = f.runs ∧ (innerM f d).1.df = f.df := by
  unfold innerM
  simp only
  split <;> exact ⟨rfl, rfl⟩
def NL (st : List Fr) : Prop := ∀ g, st.getLast? = some g → g.df = false
theorem NL.head {f f' : Fr} {st : List Fr} (h : NL (f :: st)) (e : f'.df = f.df) : NL (f' :: st) := by
  intro g hg
  cases st with
  | nil => simp at hg; subst hg; rw [e]; exact h f rfl
  | cons x r => exact h g (by rw [List.getLast?_cons_cons] at hg ⊢; exact hg)
theorem NL.tail {f x : Fr} {st : List Fr} (h : NL (f :: x :: st)) : NL (x :: st) := fun g hg => h g (by rw [List.getLast?_cons_cons]; exact hg)
theorem NL.cons {f x : Fr} {st : List Fr} (h : NL (x :: st)) : NL (f :: x :: st) := fun g hg => h g (by rw [List.getLast?_cons_cons] at hg; exact hg)
def QX (L : List (List St)) (fu k : Nat) (m : Ma) (st : List Fr) : Prop := PP L fu m st ∧ BL m ∧ m.trace.length + wt st + k ≤ 3 * m.made + 2 ∧ NL st ∧ (st = [] → m.trace = [])
def FX (L : List (List St)) (fu : Nat) (m : Ma) (d : Fr) (st : List Fr) : Prop := FF L fu m d st ∧ BL m ∧ m.trace.length + wt st ≤ 3 * m.made + 2 ∧ NL (d :: st) ∧ FrOk L m.panics.length m.calls.length d ∧ ∀ f ∈ st, FrOk L m.panics.length m.calls.length f
theorem along2 {L : List (List St)} (hL : ProgOk L) (fu : Nat) : Along2 L fu (TArg L) (QX L fu 0) (QX L fu 3) (FX L fu) where
  start0 m fn arg := by
    rintro ⟨p, b, w, nl, z⟩ t
    obtain ⟨b1, b2, b3, b4, b5⟩ := b.start fn arg none false
    refine ⟨(along hL fu).start m [] fn arg false p (fun _ => t) (fun _ f hf => by cases hf) (fun h => by cases h), b1, ?_, fun g hg => ?_, fun h => by cases h⟩
    · have := z rfl
      rw [b2, b3]
      show _ + (2 * (startM m fn arg none false).2.runs.length + 1 + 0) + 0 ≤ _
      rw [b4, this]; show 0 + 1 + (2 * 0 + 1 + 0) + 0 ≤ _; omega
    · simp at hg; subst hg; exact b5
  start1 m f st s := by
    rintro ⟨p, b, w, nl, z⟩ he hs k
    obtain ⟨b1, b2, b3, b4, b5⟩ := b.start s.a (regAt f.regs s.b) (some f) false
    refine ⟨(along hL fu).start m (f :: st) s.a (regAt f.regs s.b) false p (fun h => by cases h) (fun _ g hg => ?_) (fun h => by cases h), b1, ?_, nl.cons, fun h => by cases h⟩
    · injection hg with hg; subst hg; exact ⟨he, s, hs, k, rfl, rfl⟩
    · rw [b2, b3]
      show _ + (2 * (startM m s.a (regAt f.regs s.b) (some f) false).2.runs.length + 1 + wt (f :: st)) + 0 ≤ _
      rw [b4]; show _ + 1 + (2 * 0 + 1 + wt (f :: st)) + 0 ≤ _; omega
  startD m f st fn arg := by
    rintro ⟨p, b, w, nl, z⟩
    obtain ⟨b1, b2, b3, b4, b5⟩ := b.start fn arg (some f) true
    have p0 := (along hL fu).drop m _ st f.runs.length p
    have e : ({ ({ f with runs := f.runs ++ [(fn, arg)] } : Fr) with runs := (({ f with runs := f.runs ++ [(fn, arg)] } : Fr).runs).take f.runs.length } : Fr) = f := by
      show Fr.mk _ _ _ ((f.runs ++ [(fn, arg)]).take f.runs.length) _ _ _ _ _ = f
      rw [List.take_left]
    rw [e] at p0
    refine ⟨(along hL fu).start m (f :: st) fn arg true p0 (fun h => by cases h) (fun h => by cases h) (fun _ => ⟨f, rfl, [], p⟩), b1, ?_, NL.cons (nl.head rfl), fun h => by cases h⟩
    rw [b2, b3]
    show _ + (2 * (startM m fn arg (some f) true).2.runs.length + 1 + (2 * f.runs.length + 1 + wt st)) + 0 ≤ _
    rw [b4]
    have w' : m.trace.length + (2 * (f.runs ++ [(fn, arg)]).length + 1 + wt st) + 0 ≤ 3 * m.made + 2 := w
    rw [List.length_append] at w'
    have w2 : m.trace.length + (2 * (f.runs.length + 1) + 1 + wt st) + 0 ≤ 3 * m.made + 2 := w'
    show _ + 1 + (2 * 0 + 1 + (2 * f.runs.length + 1 + wt st)) + 0 ≤ _
    omega
  made m f st := by
    rintro ⟨p, b, w, nl, z⟩ hne hs
    refine ⟨(along hL fu).made m f st p hne hs, ⟨b.c, b.p, b.r, b.u⟩, ?_, nl, fun h => by cases h⟩
    show m.trace.length + wt (f :: st) + 3 ≤ 3 * (m.made + 1) + 2
    omega
  weak m st := by
    rintro ⟨p, b, w, nl, z⟩
    exact ⟨p, b, by omega, nl, z⟩
  step m f st s := by
    rintro ⟨p, b, w, nl, z⟩ he hs k4 k11
    obtain ⟨b1, b2, b3⟩ := step_bound m f st.head? s b
    have hp := (along hL fu).step m f st s p he hs k4 k11
    obtain ⟨q1, _, _, q4, q5⟩ := stepM_par m f st.head? s
    refine ⟨hp, b1, ?_, ?_, fun h => by cases h⟩
    · have hw : wt (putHead (stepM m f st.head? s).2.2.1 st) = wt st := by
        rcases parentOf q4 q5 with ⟨e1, rfl⟩ | ⟨p, r, x, rfl, e1⟩
        · rw [e1]; rfl
        · rw [e1]; rfl
      rw [b2]
      show _ + (2 * (stepM m f st.head? s).2.1.runs.length + 1 + wt (putHead (stepM m f st.head? s).2.2.1 st)) + 0 ≤ _
      rw [hw]
      have w' : m.trace.length + (2 * f.runs.length + 1 + wt st) + 3 ≤ 3 * m.made + 2 := w
      omega
    · rcases parentOf q4 q5 with ⟨e1, rfl⟩ | ⟨g, r, x, rfl, e1⟩
      · rw [e1]; exact nl.head q1
      · rw [e1]
        show NL (_ :: ({ g with regs := x } : Fr) :: r)
        exact NL.cons (nl.tail.head rfl)
  inner m f d st := by
    rintro ⟨p, b, w, nl, z⟩ he hd
    obtain ⟨i1, i2⟩ := inner_same f d
    refine ⟨(along hL fu).inner m f d st p he hd, b, ?_, nl.tail.head i2, fun h => by cases h⟩
    show _ + (2 * (innerM f d).1.runs.length + 1 + wt st) + 0 ≤ _
    rw [i1]; exact w
  behind m f d st := by
    rintro ⟨p, b, w, nl, z⟩ hd
    obtain ⟨b1, b2, b3, b4, b5⟩ := b.behind f d
    refine ⟨(along hL fu).behind m f d st p hd, b1, ?_, nl.tail.head b5, fun h => by cases h⟩
    rw [b2, b3]
    show _ + (2 * (behindM m f d).2.runs.length + 1 + wt st) + 0 ≤ _
    rw [b4]; exact w
  finish m f st := by
    rintro ⟨p, b, w, nl, z⟩
    obtain ⟨b1, b2, b3⟩ := b.done f
    obtain ⟨_, l1, l2, _⟩ := p.1.1.done
    refine ⟨(along hL fu).finish m f st p, b1, ?_, nl, ?_, fun g hg => ?_⟩
    · show (doneM m f).trace.length + wt st ≤ 3 * (doneM m f).made + 2
      rw [b2, b3]
      have w' : m.trace.length + (2 * f.runs.length + 1 + wt st) + 0 ≤ 3 * m.made + 2 := w
      omega
    · show FrOk L (doneM m f).panics.length (doneM m f).calls.length f
      rw [l1, l2]; exact p.1.1.fr f (by simp)
    · show FrOk L (doneM m f).panics.length (doneM m f).calls.length g
      rw [l1, l2]; exact p.1.1.fr g (by simp [hg])
theorem QX.small {L : List (List St)} {fu k : Nat} (hfu : fu ≤ 100000) {m : Ma} {st : List Fr} (h : QX L fu k m st) : Small m := by
  obtain ⟨p, b, w, nl, z⟩ := h
  have h1 := p.1.1.ma.made
  have h2 := wt_len st
  have h3 := p.1.1.dep
  have h4 := p.1.2.len
  have h5 := b.c
  have h6 := b.p
  have h7 := b.r
  refine ⟨by omega, by omega, by omega, by omega, by omega, fun x hx => ?_, by omega, by omega⟩
  have := b.u x hx
  omega
theorem invX {L : List (List St)} (hL : ProgOk L) {fu : Nat} (hfu : fu ≤ 100000) : Inv L fu (QX L fu 0) (QX L fu 3) (FX L fu) where
  al := along2 hL fu
  small m st h := h.small hfu
  dep m st h := h.1.1.1.dep
  fr m st h f hf := by
    obtain ⟨p, b, w, nl, z⟩ := h
    have h1 := p.1.1.ma.made
    have h2 := wt_mem hf
    exact ⟨p.1.1.fr f hf, by omega⟩
  par m f st h hd := by
    obtain ⟨p, b, w, nl, z⟩ := h
    cases st with
    | nil => rw [nl f rfl] at hd; cases hd
    | cons g r => exact ⟨g, r, rfl⟩
  done m d st h := h.2.2.2.2
theorem zero_QX (L : List (List St)) (fu : Nat) : QX L fu 0 (zeroM 0) [] :=
  ⟨zero_PP L fu, ⟨Nat.le_refl _, Nat.le_refl _, Nat.le_refl _, (fun x hx => by cases hx)⟩, by show 0 + 0 + 0 ≤ 2; omega, (fun g hg => by cases hg), fun _ => rfl⟩
theorem endO {L : List (List St)} (hL : ProgOk L) (fu : Nat) {fn arg : Int} (h1 : FnOk L fn) (h2 : n16 arg) : EndO L fu (callM L fu 8 (zeroM 0) fn arg none false) := by
  have := ran_along hL (fuel := fu) h1 h2
  revert this
  cases callM L fu 8 (zeroM 0) fn arg none false with
  | spent m => exact fun _ => trivial
  | ok m x => obtain ⟨par, f⟩ := x; exact fun h => h
structure Joined (R : Run) (q : SM × SF) : Prop where
  kind : (toldS q.1 q.2).kind = R.kind
  val : (toldS q.1 q.2).val = R.val
  made : q.1.made = R.m.made
  trace : q.1.trace = R.m.trace
  deep : q.1.deep = R.m.deepest
theorem joined {L : List (List St)} (hL : ProgOk L) {fn arg : Int} (h1 : FnOk L fn) (h2 : n16 arg) (fu : Nat) : Joined (ranM L fn arg fu) (wholeS L fn arg fu) := by
  have hs := sim_call (fuel := fu) (jumpOk_of hL) 8 (zeroM 0) ⟨false, 0, 0, 0, [], []⟩ fn arg none false ⟨fn, 1, [arg, 0, 0, 0], [], 0, 0, false, false, false, 0, false, 0⟩ (Nat.zero_le _) ⟨rfl, rfl, rfl, rfl, rfl⟩ ⟨rfl, rfl, rfl, rfl, rfl, rfl, rfl, .inl ⟨rfl, rfl⟩⟩
  have he := endO hL fu h1 h2
  rw [ranM_eq]
  unfold wholeS
  obtain ⟨q, hq⟩ : ∃ q, q = callS L fu 8 ⟨false, 0, 0, 0, [], []⟩ ⟨fn, 1, [arg, 0, 0, 0], [], 0, 0, false, false, false, 0, false, 0⟩ := ⟨_, rfl⟩
  rw [← hq] at hs ⊢
  clear hq
  revert he
  revert hs
  cases callM L fu 8 (zeroM 0) fn arg none false with
  | spent m =>
    rintro ⟨x1, x2, x3, x4⟩ _
    have e : toldS q.1 q.2 = ⟨4, 0⟩ := by unfold toldS; rw [x1]; rfl
    exact ⟨by rw [e]; rfl, by rw [e]; rfl, x2, x4, x3⟩
  | ok m x =>
    obtain ⟨par, f⟩ := x
    rintro ⟨⟨g1, g2, g3, g4, g5⟩, _, _, rf⟩ he
    obtain ⟨cx, c1, c2, c3⟩ := he.res
    have ev : (m.calls.getD 0 (⟨0, 0, false, 0, 0, 0⟩ : Ci)).va = cx.va := by rw [List.getD_eq_getElem?_getD, c1]; rfl
    have em : (if f.en = 2 then pnSet m f.pa (fun x => { x with fa := 3 }) else m).made = m.made ∧ (if f.en = 2 then pnSet m f.pa (fun x => { x with fa := 3 }) else m).trace = m.trace ∧ (if f.en = 2 then pnSet m f.pa (fun x => { x with fa := 3 }) else m).deepest = m.deepest := by split <;> exact ⟨rfl, rfl, rfl⟩
    have qk := rf.qk
    have qr := rf.qr
    have qv := rf.qv
    refine ⟨?_, ?_, by rw [g3]; exact em.1.symm, by rw [g5]; exact em.2.1.symm, by rw [g4]; show _ = (((if f.en = 2 then pnSet m f.pa (fun x => { x with fa := 3 }) else m).deepest : Nat) : Int); rw [em.2.2]⟩
    · show _ = f.en
      unfold toldS
      rw [g1, if_neg Bool.false_ne_true, qk]
      split
      · rename_i h; exact h.symm
      · split
        · rename_i h; exact h.symm
        · rfl
    · show _ = (m.calls.getD 0 (⟨0, 0, false, 0, 0, 0⟩ : Ci)).va
      rw [ev, c3]
      unfold toldS
      rw [g1, if_neg Bool.false_ne_true, qk]
      split
      · show regAt q.2.regs 1 = _; rw [qr]
      · split
        · rename_i h
          exact (qv h).2.2.symm
        · rfl
theorem impl_ranA (S : HP) (w : World) [H : SepI w S] (A : Option Addr) (c : Nat) (bs : List Bd) [r : Rd S A (cBds bs)] [B : Bodies S bs] (fn arg : Int) (fu : Nat) (L : List (List St)) (hbs : bs.map (·.l) = L) (hv : askB L fn arg fu = true) :
    Calls Try.prog 75 #[.agg #[.slice A bs.length c], .int .i64 fn, .int .i64 arg, .int .i64 fu] w (RanP S A bs.length c fu (ranM L fn arg fu) w) := by
  have hh := askB_of hv
  have hfu2 : fu ≤ 100000 := by have := hh.2.2.2.2; omega
  unfold askB at hv
  rw [Bool.and_eq_true, Bool.and_eq_true, Bool.and_eq_true] at hv
  have HC : ∀ gm, CallW L fu (QX L fu 0) (QX L fu 3) gm A bs.length c bs 8 := fun gm => impl_call (invX hh.1 hfu2) hh.1 hfu2 hbs rfl (fun m st h => h.1.1.1.ma.made) 8
  have hE := endO hh.1 fu hh.2.1 hh.2.2.1
  have hz := zero_QX L fu
  have e1 : progB (bs.map (·.l)) = true := by rw [hbs]; exact hv.1
  have e2 : inB fn 0 ((bs.length : Int) - 1) = true := by have := hv.2.1; rw [← hbs, List.length_map] at this; exact this
  generalize hP : QX L fu 0 = P at HC hz
  generalize hQ : QX L fu 3 = Q at HC
  exact impl_ranP S w A c bs fn arg fu e1 e2 hv.2.2.1 fu rfl hv.2.2.2 L P Q HC hz hh.2.1 hh.2.2.1 hE
structure Facts (R : Run) : Prop where
  r3 : ∃ now, read3 R.m.trace = some ⟨R.m.calls.map c5, R.m.owners, now⟩
  r4 : ∃ on, read4 R.m.trace = some (mk4 R.m on)
  len : R.m.owners.length = R.m.trace.length
  r5 : read5 R.m.trace R.m.owners = (R.m.recs.map (·.ca), agN R.m.panics)
  cs : CallsOk R.m
  rs : RecsOk R.m
  la : ∀ (k : Nat) p, R.m.panics[k]? = some p → -1 ≤ p.la ∧ p.la < (k : Int)
  ts : R.m.trace.length ≤ 1000
  bl : BL R.m
  arr : R.kind = 2 → ∃ (k : Nat) (p : Pn), R.m.panics[k]? = some p ∧ p.fa = 3 ∧ ∀ (j : Nat) (q : Pn), R.m.panics[j]? = some q → q.fa = 3 → j = k
  kd : 1 ≤ R.kind ∧ R.kind ≤ 4
theorem get_set_pn {m : Ma} {k : Int} {g : Pn → Pn} {j : Nat} {p : Pn} (h : (pnSet m k g).panics[j]? = some p) : (j = k.toNat ∧ p = g (pnAt m k) ∧ k.toNat < m.panics.length) ∨ (j ≠ k.toNat ∧ m.panics[j]? = some p) := by
  have h : (m.panics.set k.toNat (g (pnAt m k)))[j]? = some p := h
  by_cases e : j = k.toNat
  · left
    subst e
    have hl := (List.getElem?_eq_some_iff.1 h).1
    rw [List.length_set] at hl
    rw [List.getElem?_set_self hl] at h
    exact ⟨rfl, (Option.some.inj h).symm, hl⟩
  · right
    rw [List.getElem?_set_ne (Ne.symm e)] at h
    exact ⟨e, h⟩
theorem facts_of {L : List (List St)} (hL : ProgOk L) {fn arg : Int} (h1 : FnOk L fn) (h2 : n16 arg) {fu : Nat} (hfu : fu ≤ 200) : Facts (ranM L fn arg fu) := by
  have hb := along2_call (along2 hL fu) 8 (zeroM 0) [] fn arg false (.first (zero_QX L fu) ⟨h1, h2⟩)
  rw [show ([] : List Fr).head? = none from rfl] at hb
  rw [ranM_eq]
  revert hb
  cases callM L fu 8 (zeroM 0) fn arg none false with
  | spent m =>
    rintro ⟨st, ⟨⟨p1, p2⟩, _⟩, b, hw, nl, z⟩
    have hmade := p1.ma.made
    refine ⟨⟨_, p2.r3⟩, ⟨_, p2.r4⟩, p2.len, p2.r5, p1.cs, p1.rs, p1.ps.la, ?_, b, fun h => ?_, ?_⟩
    · show m.trace.length ≤ 1000; omega
    · have h : (4 : Int) = 2 := h
      omega
    · show (1 : Int) ≤ 4 ∧ (4 : Int) ≤ 4; omega
  | ok m x =>
    obtain ⟨par, f⟩ := x
    rintro ⟨⟨hF, b, hw, nl, fr⟩, g1, g2, g3⟩
    cases par with
    | some p => simp at g2
    | none =>
      have E : Ended L fu m f := hF.1
      have hmade := E.ma.made
      by_cases en : f.en = 2
      · have e : runOut (.ok m (none, f)) = ⟨pnSet m f.pa (fun x => { x with fa := 3 }), f.en, (m.calls.getD 0 ⟨0, 0, false, 0, 0, 0⟩).va⟩ := by
          show Run.mk _ _ _ = _
          rw [if_pos en]
        rw [e]
        obtain ⟨a1, a2⟩ := E.fr.pa en
        have r4 := E.r4
        rw [arrive_yes en] at r4
        refine ⟨⟨_, E.r3⟩, ⟨_, r4⟩, E.len, ?_, ⟨E.cs.up, E.cs.en⟩, ⟨fun r hr => ?_⟩, fun k p hk => ?_, ?_, ?_, fun _ => ?_, ?_⟩
        · show read5 m.trace m.owners = (_, agN (pnSet m f.pa (fun x => { x with fa := 3 })).panics)
          rw [agN_pn m f.pa (fun x => { x with fa := 3 }) (fun _ => rfl)]; exact E.r5
        · have := E.rs.ok r hr
          refine ⟨this.1, this.2.1, this.2.2.1, this.2.2.2.1, ?_⟩
          show r.pa.toNat < (pnSet m f.pa (fun x => { x with fa := 3 })).panics.length
          rw [P1.pans_len]; exact this.2.2.2.2
        · rcases get_set_pn hk with ⟨rfl, rfl, hl⟩ | ⟨_, h⟩
          · have hg : m.panics[f.pa.toNat]? = some (pnAt m f.pa) := by unfold pnAt; rw [List.getD_eq_getElem?_getD, List.getElem?_eq_getElem hl]; rfl
            have q := E.ps.la _ _ hg
            exact q
          · exact E.ps.la _ _ h
        · show m.trace.length ≤ 1000; omega
        · exact b.pn f.pa (fun x => { x with fa := 3 }) fun _ => rfl
        · refine ⟨f.pa.toNat, { pnAt m f.pa with fa := 3 }, List.getElem?_set_self a2, rfl, fun j q hj hq => ?_⟩
          rcases get_set_pn hj with ⟨rfl, _, _⟩ | ⟨_, h⟩
          · rfl
          · exact absurd hq (E.ps.fa q (List.mem_of_getElem? h)).2.2
        · show 1 ≤ f.en ∧ f.en ≤ 4; omega
      · have e : runOut (.ok m (none, f)) = ⟨m, f.en, (m.calls.getD 0 ⟨0, 0, false, 0, 0, 0⟩).va⟩ := by
          show Run.mk _ _ _ = _
          rw [if_neg en]
        rw [e]
        have r4 := E.r4
        rw [arrive_not en] at r4
        refine ⟨⟨_, E.r3⟩, ⟨_, r4⟩, E.len, E.r5, E.cs, E.rs, E.ps.la, ?_, b, fun h => absurd h en, ?_⟩
        · show m.trace.length ≤ 1000; omega
        · have := E.fr.en
          show 1 ≤ f.en ∧ f.en ≤ 4; omega
theorem factsB {L : List (List St)} {fn arg : Int} {fu : Nat} (h : askB L fn arg fu = true) : Facts (ranM L fn arg fu) := by
  obtain ⟨hL, h1, h2, h3, h4⟩ := askB_of h
  exact facts_of hL h1 h2 (by omega)
theorem fm_yes {α β : Type} {f : α → Option β} {l : List α} {i : Nat} {a : α} {b : β} (h : l[i]? = some a) (hf : f a = some b) : (l.take (i + 1)).filterMap f = (l.take i).filterMap f ++ [b] := by
  rw [take_succ_eq h, List.filterMap_append]; simp [hf]
theorem fm_no {α β : Type} {f : α → Option β} {l : List α} {i : Nat} {a : α} (h : l[i]? = some a) (hf : f a = none) : (l.take (i + 1)).filterMap f = (l.take i).filterMap f := by
  rw [take_succ_eq h, List.filterMap_append]; simp [hf]
theorem fm_len {α β : Type} (f : α → Option β) (l : List α) (i : Nat) : ((l.take i).filterMap f).length ≤ l.length := by
  have h1 := List.length_filterMap_le f (l.take i)
  have h2 : (l.take i).length ≤ l.length := by rw [List.length_take]; omega
  omega
def upAt (cs : List C5) (k : Int) : Int := (cs.getD k.toNat ⟨0, 0, false, 0, 0⟩).up
def savF (cs : List C5) (x : Ev × Int) : Option Int := if x.1.k = 6 then some (upAt cs x.2) else none
def savA (t : List Ev) (os : List Int) (cs : List C5) : List Int := (t.zip os).filterMap (savF cs)
def depS (out : List Int) (c : C5) : List Int := out ++ [if c.up < 0 then 1 else out.getD c.up.toNat 0 + 1]
def depA (cs : List C5) : List Int := cs.foldl depS []
theorem depA_len (cs : List C5) : (depA cs).length = cs.length := by
  have key : ∀ (l : List C5) (a : List Int), (l.foldl depS a).length = a.length + l.length := by
    intro l
    induction l with
    | nil => intro a; simp
    | cons x l ih => intro a; rw [List.foldl_cons, ih]; simp [depS]; omega
  have := key cs []
  simpa [depA] using this
theorem depA_snoc (cs : List C5) (c : C5) : depA (cs ++ [c]) = depS (depA cs) c := by unfold depA; rw [List.foldl_append]; rfl
theorem read5_eq (t : List Ev) (o : List Int) : (read5 t o).1 = (t.zip o).filterMap (fun x => if x.1.k = 6 then some x.2 else none) := by
  have key : ∀ (l : List (Ev × Int)) (a : List Int × Int), (l.foldl step5 a).1 = a.1 ++ l.filterMap (fun x => if x.1.k = 6 then some x.2 else none) := by
    intro l
    induction l with
    | nil => intro a; simp
    | cons x l ih =>
      intro a
      rw [List.foldl_cons, ih]
      unfold step5
      by_cases h : x.1.k = 6
      · rw [if_pos h, List.filterMap_cons_some (b := x.2) (by simp [h])]; simp
      · rw [if_neg h, List.filterMap_cons_none (by simp [h])]
        split <;> rfl
  have := key (t.zip o) ([], 0)
  simpa [read5] using this
theorem sav_eq {R : Run} (F : Facts R) : savA R.m.trace R.m.owners (R.m.calls.map c5) = R.m.recs.map (·.sa) := by
  have h1 := read5_eq R.m.trace R.m.owners
  rw [F.r5] at h1
  have h2 : savA R.m.trace R.m.owners (R.m.calls.map c5) = ((R.m.trace.zip R.m.owners).filterMap (fun x => if x.1.k = 6 then some x.2 else none)).map (upAt (R.m.calls.map c5)) := by
    unfold savA
    rw [List.map_filterMap]
    congr 1
    funext x
    unfold savF
    by_cases h : x.1.k = 6
    · rw [if_pos h, if_pos h]; rfl
    · rw [if_neg h, if_neg h]; rfl
  rw [h2, ← h1, List.map_map]
  refine List.map_congr_left fun r hr => ?_
  obtain ⟨_, ⟨c, hc, hu⟩, _⟩ := F.rs.ok r hr
  show (((R.m.calls.map c5).getD r.ca.toNat _).up) = r.sa
  rw [List.getD_eq_getElem?_getD, List.getElem?_map, hc]
  exact hu
end Go.Proofs.Ytobikkdnalnllaa
