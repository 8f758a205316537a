/- The program's machine: the step that calls. Conditions: lengths within bounds. -/
import Derived.Test.YtobikkdnalnllaaKi
import Derived.Test.YtobikkdnalnllaaQb
namespace Go.Proofs.Ytobikkdnalnllaa
open Go.RowKit SL
attribute [local go_sem] cell_blk frozen_blk lt_blk cell_at frozen_row lt_row
set_option linter.unusedVariables false
set_option linter.unusedSimpArgs false

/-- What the walk wants of what holds all along. -/
structure Inv (L : List (List St)) (fuel : Nat) (P Q : Ma → List Fr → Prop) (F : Ma → Fr → List Fr → Prop) : Prop where
  al : Along2 L fuel (fun fn arg => FnOk L fn ∧ n16 arg) P Q F
  small : ∀ m st, P m st → Small m
  dep : ∀ m st, P m st → m.depth = st.length
  fr : ∀ m st, P m st → ∀ f ∈ st, FrOk L m.panics.length m.calls.length f ∧ f.runs.length ≤ 1048576
  par : ∀ m f st, P m (f :: st) → f.df = true → ∃ p r, st = p :: r
  done : ∀ m d st, F m d st → FrOk L m.panics.length m.calls.length d ∧ ∀ f ∈ st, FrOk L m.panics.length m.calls.length f
abbrev TArg (L : List (List St)) : Int → Int → Prop := fun fn arg => FnOk L fn ∧ n16 arg
/-- All is spent. -/
def spentE : Ending := .panicked [{ v := .iface 170 (.agg #[]), recovered := false }]
/-- What a call of the machine leaves. -/
def CallPW (S : HP) (gm : Nat) (A : Option Addr) (n c : Nat) (fuel : Int) (loc : Option (Nat × Value)) (o : Out (Option Fr × Fr)) (w : World) (e : Ending) (w' : World) : Prop := match o with
  | .spent m => e = spentE ∧ Post w (Mach gm A n c fuel m * S) w'
  | .ok m (par, f) => ∃ gf, e = .returned (.pointer (some ⟨gf, 0, none⟩)) ∧ Post w (Mach gm A n c fuel m * (FrH gf (pvOf loc) f * (ParH loc par * S))) w'
/-- The contract of call at one depth. -/
def CallW (L : List (List St)) (fuel : Nat) (P Q : Ma → List Fr → Prop) (gm : Nat) (A : Option Addr) (n c : Nat) (bs : List Bd) (d : Nat) : Prop :=
  ∀ (S : HP) (w : World) (m : Ma) (st : List Fr) (fn arg : Int) (loc : Option (Nat × Value)) (df : Bool), Rd S A (cBds bs) → Bodies S bs → SepI w (Mach gm A n c fuel m * (ParH loc st.head? * S)) → loc.isSome = st.head?.isSome → SP L (TArg L) P Q m st fn arg df → m.depth + d = 8 →
  Calls Try.prog 131 #[.pointer (some ⟨gm, 0, none⟩), .int .i64 fn, .int .i64 arg, pvOf loc, .bool df] w (CallPW S gm A n c fuel loc (callM L fuel d m fn arg st.head? df) w)
set_option maxRecDepth 100000 in
set_option maxHeartbeats 4000000 in
theorem impl_call0 (L : List (List St)) (fuel : Nat) (P Q : Ma → List Fr → Prop) (gm : Nat) (A : Option Addr) (n c : Nat) (bs : List Bd) : CallW L fuel P Q gm A n c bs 0 := by
  intro S w m st fn arg loc df rdA bd H hloc hsp hdep
  obtain ⟨⟨A1, c1, A2, c2, A3, c3, A4, c4, A5, c5, bm, ps⟩, hps, H1⟩ := Mach.open H
  have HS0 := Hd.mk H
  obtain ⟨mk, sh, dep, deep, t, ow, cl, pn, rs⟩ := m
  simp only at hps hdep
  subst hps
  have hdep : dep = 8 := by omega
  subst hdep
  unfold MachC at H1
  simp only at H1
  clear H hsp
  show Calls _ _ _ _ (CallPW _ _ _ _ _ _ _ (.spent _) _)
  have hpn : ∀ w : World, (Instr.panic (.iface 170 (.agg #[]))).run Try.prog w = .halt (.panic (.iface 170 (.agg #[]))) w := fun _ => rfl
  go_enter Try.func131, Try.ntmps131
  go_wp2
  exact ⟨rfl, rfl, Post.mk' (@Ent.sep _ _ inferInstance _ HS0.out) inferInstance⟩
/-- What the step that calls leaves. -/
def Step4P (S : HP) (gm gf : Nat) (A : Option Addr) (n c : Nat) (fuel : Int) (loc : Option (Nat × Value)) (f : Fr) (par : Option Fr) (o : Out (Option Fr × Fr)) (w : World) (e : Ending) (w' : World) : Prop := match o with
  | .spent m => e = spentE ∧ Post w (Mach gm A n c fuel m * S) w'
  | .ok m (pf, d) => e = .returned (.bool (innerM (pf.getD f) d).2) ∧ Post w (Mach gm A n c fuel m * (FrH gf (pvOf loc) (innerM (pf.getD f) d).1 * (ParH loc par * S))) w'
theorem Step4P.of {S : HP} {gm gf : Nat} {A : Option Addr} {n c : Nat} {fuel : Int} {loc : Option (Nat × Value)} {f : Fr} {par : Option Fr} {m2 : Ma} {pf : Option Fr} {d g : Fr} {b : Bool} {w w' : World} (h : innerM (pf.getD f) d = (g, b)) (hp : Post w (Mach gm A n c fuel m2 * (FrH gf (pvOf loc) g * (ParH loc par * S))) w') : Step4P S gm gf A n c fuel loc f par (.ok m2 (pf, d)) w (.returned (.bool b)) w' := by
  show _ ∧ _
  rw [h]
  exact ⟨rfl, hp⟩
set_option maxRecDepth 100000 in
set_option maxHeartbeats 8000000 in
theorem impl_step4 {L : List (List St)} {fu : Nat} {P Q : Ma → List Fr → Prop} {F : Ma → Fr → List Fr → Prop} (I : Inv L fu P Q F) {gm : Nat} {A : Option Addr} {n c : Nat} {bs : List Bd} {d : Nat} (HC : CallW L fu P Q gm A n c bs d)
    (S : HP) (w : World) (m : Ma) (f : Fr) (st : List Fr) (loc : Option (Nat × Value)) (gf : Nat) (rdA : Rd S A (cBds bs)) (bd : Bodies S bs) [H : SepI w (Mach gm A n c fu m * (FrH gf (pvOf loc) f * (ParH loc st.head? * S)))] (hloc : loc.isSome = st.head?.isSome) (sa : Int) (kb : Nat) (hkb : kb < 4) (hq : Q m (f :: st)) (he : f.en = 1) (hs : (⟨4, sa, kb⟩ : St) ∈ bodyOf L f.fn) (hdep : m.depth + d = 8) :
    Calls Try.prog 159 #[.pointer (some ⟨gm, 0, none⟩), .pointer (some ⟨gf, 0, none⟩), .agg #[.int .i64 4, .int .i64 sa, .int .i64 (kb : Int)]] w (Step4P S gm gf A n c fu loc f st.head? (callM L fu d m sa (regAt f.regs kb) (some f) false) w) := by
  have HSP : Hd (SP L (TArg L) P Q m (f :: st) sa (regAt f.regs kb) false) := ⟨.inner (s := ⟨4, sa, kb⟩) hq he hs rfl⟩
  have HAL := Hd.mk (along2_inner I.al (along2_call I.al d) hq he hs rfl)
  have HDN : Hd (∀ m d st, F m d st → FrOk L m.panics.length m.calls.length d ∧ ∀ f ∈ st, FrOk L m.panics.length m.calls.length f) := ⟨I.done⟩
  have HCC := Hd.mk HC
  have HDP := Hd.mk hdep
  obtain ⟨o, ho⟩ : ∃ o, callM L fu d m sa (regAt f.regs kb) (some f) false = o := ⟨_, rfl⟩
  have HO := Hd.mk ho
  rw [ho]
  obtain ⟨fuel, hfu⟩ : ∃ fuel : Int, fuel = fu := ⟨_, rfl⟩
  have HFU := Hd.mk hfu
  rw [← hfu] at H ⊢
  clear ho hdep hq hs HC hfu I
  obtain ⟨f0, hf0⟩ : ∃ f0, f0 = f := ⟨_, rfl⟩
  have HF0 := Hd.mk hf0
  rw [← hf0]
  clear hf0
  obtain ⟨⟨r, A0, c0⟩, hr, H1⟩ := FM.open H
  obtain ⟨id, fn, rg, rn, df, ct, lv, en, pa⟩ := f
  simp only at hr
  subst hr
  unfold FrC at H1
  simp only at H1
  clear H
  simp only at he
  subst he
  have hkI : (kb : Int) < 4 := by omega
  have hget : #[Value.int .i64 (id : Int), .int .i64 fn, .int .i64 r.a, .int .i64 r.b, .int .i64 r.c, .int .i64 r.d, .slice A0 rn.length c0, pvOf loc, .bool df, .bool ct, .bool lv, .int .i64 1, .int .i64 pa][2 + kb]? = some (.int .i64 (regAt r.l kb)) := frC_get (by omega)
  go_enter Try.func159, Try.ntmps159
  go_wp2
  refine wp_region_W 11 13 (by kernel_rfl) (by kernel_rfl) (fun w' => w'.cell? ⟨w.heap.size, 1, none⟩ = some (.int .i64 sa) ∧ w'.cell? ⟨w.heap.size, 2, none⟩ = some (.int .i64 (kb : Int)) ∧ w'.cell? ⟨gf, 2 + kb, none⟩ = some (.int .i64 (regAt r.l kb))) ⟨cb, cb, (cell_blk _ _ _ _ _ _ _).trans hget⟩ (fun hHeld => ?_)
  refine tkp 0 hHeld ?_
  refine tkp 1 hHeld ?_
  refine tkl 2 hHeld ?_
  refine tkp 3 hHeld ?_
  refine tkp 4 hHeld ?_
  refine tkl 5 hHeld ?_
  refine tkp 6 hHeld ?_
  refine tkp 7 hHeld ?_
  refine tkp 8 hHeld ?_
  refine tkl 9 hHeld ?_
  refine tkp 10 hHeld ?_
  refine wpAnyW_done (by kernel_rfl) ?_
  go_wp2_with fail
  refine (HCC.out (pts w.heap.size (.cells #[.int .i64 4, .int .i64 sa, .int .i64 (kb : Int)] 141 (0, 0)) * (ParH loc st.head? * S)) _ m ((⟨id, fn, r.l, rn, df, ct, lv, 1, pa⟩ : Fr) :: st) sa (regAt r.l kb) (some (gf, pvOf loc)) false inferInstance inferInstance (by rw [← HFU.out]; exact FM.shut ⟨r, A0, c0⟩ rfl (SepI.cast (Ent.sep (S := _) (T := pts gf (.cells #[Value.int .i64 (id : Int), .int .i64 fn, .int .i64 r.a, .int .i64 r.b, .int .i64 r.c, .int .i64 r.d, .slice A0 rn.length c0, pvOf loc, .bool df, .bool ct, .bool lv, .int .i64 1, .int .i64 pa] 154 (0, 0)) * (Row 191 2 (.slice A0 rn.length c0) rn.length (cPr rn) * (Mach gm A n c fuel m * (pts w.heap.size (.cells #[.int .i64 4, .int .i64 sa, .int .i64 (kb : Int)] 141 (0, 0)) * (ParH loc st.head? * (S)))))) inferInstance inferInstance) (by rfl))) rfl HSP.out HDP.out).mono ?_
  intro e w4 hP
  rw [show callM L fu d m sa (regAt r.l kb) ((⟨id, fn, r.l, rn, df, ct, lv, 1, pa⟩ : Fr) :: st).head? false = o from HO.out, ← HFU.out] at hP
  have hal := HAL.out
  rw [show callM L fu d m (⟨4, sa, kb⟩ : St).a (regAt r.l (⟨4, sa, kb⟩ : St).b) (some (⟨id, fn, r.l, rn, df, ct, lv, 1, pa⟩ : Fr)) false = o from HO.out] at hal
  clear HAL HO HCC HSP
  cases o with
  | spent m2 =>
    obtain ⟨rfl, HP⟩ := hP
    have HS4 := HP.sep
    have HE4 := HP.ext
    unfold spentE
    go_wp2
    exact ⟨rfl, rfl, Post.mk' (Ent.sep (S := _) (T := Mach gm A n c fuel m2 * S) inferInstance inferInstance) inferInstance⟩
  | ok m2 x =>
    obtain ⟨pf, dd⟩ := x
    obtain ⟨x, rfl, hF, hddf, hPn⟩ := hal
    obtain ⟨gd, rfl, HP⟩ := hP
    have HS4 : SepI w4 (Mach gm A n c fuel m2 * (FrH gd (.pointer (some ⟨gf, 0, none⟩)) dd * (FrH gf (pvOf loc) (⟨id, fn, x, rn, df, ct, lv, 1, pa⟩ : Fr) * (pts w.heap.size (.cells #[.int .i64 4, .int .i64 sa, .int .i64 (kb : Int)] 141 (0, 0)) * (ParH loc st.head? * S))))) := HP.sep
    have HE4 := HP.ext
    clear HP hF hPn HDN H1 hget hddf
    obtain ⟨⟨rp, A9, c9⟩, ⟨r2, A8, c8⟩, hr, hrp, H5⟩ := FMP.open HS4
    obtain ⟨idp, fnp, rgp, rnp, dfp, ctp, lvp, enp, pap⟩ := dd
    simp only at hr hrp
    subst hr hrp
    unfold FrC at H5
    simp only at H5
    clear HS4
    cases lv
    · by_cases hen0 : enp = 1
      · subst hen0
        have HIN : Hd (innerM (⟨id, fn, r2.l, rn, df, ct, false, 1, pa⟩ : Fr) (⟨idp, fnp, rp.l, rnp, dfp, ctp, lvp, 1, pap⟩ : Fr) = ((⟨id, fn, regSet r2.l 2 rp.b, rn, df, ct, lvp, 1, pa⟩ : Fr), false)) := ⟨rfl⟩
        go_wp2
        refine wp_region_W 8 10 (by kernel_rfl) (by kernel_rfl) (fun w' => w'.cell? ⟨gd, 3, none⟩ = some (.int .i64 rp.b)) (cb) (fun hHeld => ?_)
        refine tkp 0 hHeld ?_
        refine tkp 1 hHeld ?_
        refine tkp 2 hHeld ?_
        refine tkp 3 hHeld ?_
        refine tkp 4 hHeld ?_
        refine tkl 5 hHeld ?_
        refine tkp 6 hHeld ?_
        refine tkp 7 hHeld ?_
        refine wpAnyW_done (by kernel_rfl) ?_
        go_wp2
        go_ret
        exact Step4P.of HIN.out (Post.mk' (FM.shut ⟨r2.set 2 rp.b, A8, c8⟩ (R4s.set_l r2 (k := 2) (by decide) _) (SepI.cast (Ent.sep (S := _) (T := pts gf (.cells ((#[Value.int .i64 (id : Int), .int .i64 fn, .int .i64 r2.a, .int .i64 r2.b, .int .i64 r2.c, .int .i64 r2.d, .slice A8 rn.length c8, pvOf loc, .bool df, .bool ct, .bool false, .int .i64 1, .int .i64 pa].setIfInBounds 10 (.bool lvp)).setIfInBounds 4 (.int .i64 rp.b)) 154 (0, 0)) * (Row 191 2 (.slice A8 rn.length c8) rn.length (cPr rn) * (Mach gm A n c fuel m2 * (ParH loc st.head? * (S))))) inferInstance inferInstance) (by rfl))) inferInstance)
      · have HIN : Hd (innerM (⟨id, fn, r2.l, rn, df, ct, false, 1, pa⟩ : Fr) (⟨idp, fnp, rp.l, rnp, dfp, ctp, lvp, enp, pap⟩ : Fr) = ((⟨id, fn, r2.l, rn, df, ct, lvp, enp, pap⟩ : Fr), true)) := ⟨by unfold innerM; simp only; rw [if_neg hen0]; rfl⟩
        have hen : (enp == 1) = false := beq_eq_false_iff_ne.2 hen0
        clear hen0
        go_wp2
        refine wp_region_W 13 12 (by kernel_rfl) (by kernel_rfl) (fun w' => w'.cell? ⟨gd, 11, none⟩ = some (.int .i64 enp) ∧ w'.cell? ⟨gd, 12, none⟩ = some (.int .i64 pap)) ⟨cb, cb⟩ (fun hHeld => ?_)
        refine tkp 0 hHeld ?_
        refine tkp 1 hHeld ?_
        refine tkp 2 hHeld ?_
        refine tkp 3 hHeld ?_
        refine tkp 4 hHeld ?_
        refine tkl 5 hHeld ?_
        refine tkp 6 hHeld ?_
        refine tkp 7 hHeld ?_
        refine tkp 8 hHeld ?_
        refine tkl 9 hHeld ?_
        refine tkp 10 hHeld ?_
        refine tkp 11 hHeld ?_
        refine wpAnyW_one true (i := 12) (by kernel_rfl) rfl (by kernel_rfl) (by rfl) (fun KK hKK => ?_)
        refine st_list rfl ?_
        go_wp2
        refine ⟨rfl, ?_⟩
        refine hKK.out _ _ (.inl rfl) (fun hHeld => ?_)
        clear hKK KK
        try simp only [Act.put, List.setIfInBounds_toArray, List.set_cons_zero, List.set_cons_succ]
        refine wpAnyW_done (by kernel_rfl) ?_
        go_wp2
        go_ret
        exact Step4P.of HIN.out (Post.mk' (FM.shut ⟨r2, A8, c8⟩ rfl (SepI.cast (Ent.sep (S := _) (T := pts gf (.cells (((#[Value.int .i64 (id : Int), .int .i64 fn, .int .i64 r2.a, .int .i64 r2.b, .int .i64 r2.c, .int .i64 r2.d, .slice A8 rn.length c8, pvOf loc, .bool df, .bool ct, .bool false, .int .i64 1, .int .i64 pa].setIfInBounds 10 (.bool lvp)).setIfInBounds 11 (.int .i64 enp)).setIfInBounds 12 (.int .i64 pap)) 154 (0, 0)) * (Row 191 2 (.slice A8 rn.length c8) rn.length (cPr rn) * (Mach gm A n c fuel m2 * (ParH loc st.head? * (S))))) inferInstance inferInstance) (by rfl))) inferInstance)
    · by_cases hen0 : enp = 1
      · subst hen0
        have HIN : Hd (innerM (⟨id, fn, r2.l, rn, df, ct, true, 1, pa⟩ : Fr) (⟨idp, fnp, rp.l, rnp, dfp, ctp, lvp, 1, pap⟩ : Fr) = ((⟨id, fn, regSet r2.l 2 rp.b, rn, df, ct, true, 1, pa⟩ : Fr), false)) := ⟨rfl⟩
        go_wp2
        refine wp_region_W 8 10 (by kernel_rfl) (by kernel_rfl) (fun w' => w'.cell? ⟨gd, 3, none⟩ = some (.int .i64 rp.b)) (cb) (fun hHeld => ?_)
        refine tkp 0 hHeld ?_
        refine tkp 1 hHeld ?_
        refine tkp 2 hHeld ?_
        refine tkp 3 hHeld ?_
        refine tkp 4 hHeld ?_
        refine tkl 5 hHeld ?_
        refine tkp 6 hHeld ?_
        refine tkp 7 hHeld ?_
        refine wpAnyW_done (by kernel_rfl) ?_
        go_wp2
        go_ret
        exact Step4P.of HIN.out (Post.mk' (FM.shut ⟨r2.set 2 rp.b, A8, c8⟩ (R4s.set_l r2 (k := 2) (by decide) _) (SepI.cast (Ent.sep (S := _) (T := pts gf (.cells ((#[Value.int .i64 (id : Int), .int .i64 fn, .int .i64 r2.a, .int .i64 r2.b, .int .i64 r2.c, .int .i64 r2.d, .slice A8 rn.length c8, pvOf loc, .bool df, .bool ct, .bool true, .int .i64 1, .int .i64 pa].setIfInBounds 10 (.bool true)).setIfInBounds 4 (.int .i64 rp.b)) 154 (0, 0)) * (Row 191 2 (.slice A8 rn.length c8) rn.length (cPr rn) * (Mach gm A n c fuel m2 * (ParH loc st.head? * (S))))) inferInstance inferInstance) (by rfl))) inferInstance)
      · have HIN : Hd (innerM (⟨id, fn, r2.l, rn, df, ct, true, 1, pa⟩ : Fr) (⟨idp, fnp, rp.l, rnp, dfp, ctp, lvp, enp, pap⟩ : Fr) = ((⟨id, fn, r2.l, rn, df, ct, true, enp, pap⟩ : Fr), true)) := ⟨by unfold innerM; simp only; rw [if_neg hen0]; rfl⟩
        have hen : (enp == 1) = false := beq_eq_false_iff_ne.2 hen0
        clear hen0
        go_wp2
        refine wp_region_W 13 12 (by kernel_rfl) (by kernel_rfl) (fun w' => w'.cell? ⟨gd, 11, none⟩ = some (.int .i64 enp) ∧ w'.cell? ⟨gd, 12, none⟩ = some (.int .i64 pap)) ⟨cb, cb⟩ (fun hHeld => ?_)
        refine tkp 0 hHeld ?_
        refine tkp 1 hHeld ?_
        refine tkp 2 hHeld ?_
        refine tkp 3 hHeld ?_
        refine tkp 4 hHeld ?_
        refine tkl 5 hHeld ?_
        refine tkp 6 hHeld ?_
        refine tkp 7 hHeld ?_
        refine tkp 8 hHeld ?_
        refine tkl 9 hHeld ?_
        refine tkp 10 hHeld ?_
        refine tkp 11 hHeld ?_
        refine wpAnyW_one true (i := 12) (by kernel_rfl) rfl (by kernel_rfl) (by rfl) (fun KK hKK => ?_)
        refine st_list rfl ?_
        go_wp2
        refine ⟨rfl, ?_⟩
        refine hKK.out _ _ (.inl rfl) (fun hHeld => ?_)
        clear hKK KK
        try simp only [Act.put, List.setIfInBounds_toArray, List.set_cons_zero, List.set_cons_succ]
        refine wpAnyW_done (by kernel_rfl) ?_
        go_wp2
        go_ret
        exact Step4P.of HIN.out (Post.mk' (FM.shut ⟨r2, A8, c8⟩ rfl (SepI.cast (Ent.sep (S := _) (T := pts gf (.cells (((#[Value.int .i64 (id : Int), .int .i64 fn, .int .i64 r2.a, .int .i64 r2.b, .int .i64 r2.c, .int .i64 r2.d, .slice A8 rn.length c8, pvOf loc, .bool df, .bool ct, .bool true, .int .i64 1, .int .i64 pa].setIfInBounds 10 (.bool true)).setIfInBounds 11 (.int .i64 enp)).setIfInBounds 12 (.int .i64 pap)) 154 (0, 0)) * (Row 191 2 (.slice A8 rn.length c8) rn.length (cPr rn) * (Mach gm A n c fuel m2 * (ParH loc st.head? * (S))))) inferInstance inferInstance) (by rfl))) inferInstance)
end Go.Proofs.Ytobikkdnalnllaa
