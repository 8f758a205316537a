/- The program's machine: a call. Conditions: lengths within bounds. -/
import Derived.Test.YtobikkdnalnllaaKn
namespace Go.Proofs.Ytobikkdnalnllaa
open Go.RowKit SL
attribute [local go_sem] cell_blk frozen_blk lt_blk cell_at frozen_row lt_row
set_option linter.unusedVariables false
set_option linter.unusedSimpArgs false

theorem putHead_lenN {par : Option Fr} {st : List Fr} (h : par.isSome = st.head?.isSome) : (putHead par st).length = st.length := by
  unfold putHead
  cases par <;> cases st <;> simp_all
set_option maxRecDepth 100000 in
set_option maxHeartbeats 16000000 in
theorem impl_callN {L : List (List St)} {fu : Nat} {P Q : Ma → List Fr → Prop} {F : Ma → Fr → List Fr → Prop} (I : Inv L fu P Q F) (hL : ProgOk L) (hfu : fu ≤ 100000) {gm : Nat} {A : Option Addr} {n c : Nat} {bs : List Bd} (hbs : bs.map (·.l) = L) (hn : bs.length = n) {d : Nat} (HC : CallW L fu P Q gm A n c bs d) (hmade : ∀ m st, P m st → m.made ≤ fu)
    (S : HP) (w : World) (m : Ma) (st : List Fr) (fn arg : Int) (df : Bool) (rdA : Rd S A (cBds bs)) (bd : Bodies S bs) (H : SepI w (Mach gm A n c fu m * (ParH (none : Option (Nat × Value)) (none : Option Fr) * S))) (hpar : st.head? = (none : Option Fr)) (hsp : SP L (TArg L) P Q m st fn arg df) (hdep : m.depth + (d + 1) = 8) :
    Calls Try.prog 131 #[.pointer (some ⟨gm, 0, none⟩), .int .i64 fn, .int .i64 arg, .pointer none, .bool df] w (CallPW S gm A n c fu (none : Option (Nat × Value)) (callM L fu (d + 1) m fn arg (none : Option Fr) df) w) := by
  rw [callM_eq]
  have hst := hsp.start I.al
  have hsm := I.small _ _ hst
  have hbd := along2_body I.al (along2_call I.al d) df (fu + 1) _ _ st 0 hst rfl rfl
  rw [hpar] at hst hsm hbd
  obtain ⟨R1, hR1⟩ : ∃ R1, bodyM (callM L fu d) L fu (fu + 1) (startM m fn arg (none : Option Fr) df).1 (startM m fn arg (none : Option Fr) df).2 (none : Option Fr) 0 = R1 := ⟨_, rfl⟩
  rw [hR1] at hbd ⊢
  have HBD := Hd.mk hbd
  have HST := Hd.mk hst
  have HI := Hd.mk I
  have HLL := Hd.mk hL
  have HCC := Hd.mk HC
  have HMD := Hd.mk hmade
  have HBS := Hd.mk hbs
  have HN := Hd.mk hn
  have HF := Hd.mk hfu
  have HR1 := Hd.mk hR1
  have HPAR := Hd.mk hpar
  obtain ⟨fuel, hfuel⟩ : ∃ fuel : Int, fuel = fu := ⟨_, rfl⟩
  have HFU := Hd.mk hfuel
  rw [← hfuel] at H ⊢
  clear hst hbd hR1 hpar hfuel hsp I hL HC hmade hbs hn hfu
  obtain ⟨⟨A1, c1, A2, c2, A3, c3, A4, c4, A5, c5, bm, ps⟩, hps, H1⟩ := Mach.open H
  obtain ⟨mk, sh, dep, deep, t, ow, cl, pn, rs⟩ := m
  simp only at hps hdep
  subst hps
  unfold MachC at H1
  simp only at H1
  clear H
  have ht := hsm.t
  have ho := hsm.o
  have hcl := hsm.c
  simp only [startM, tellM, List.length_append, List.length_cons, List.length_nil] at ht ho hcl
  clear hsm
  have HDP : Hd (dep + (d + 1) = 8) := ⟨hdep⟩
  have hd8 : ((dep : Int) == 8) = false := beq_eq_false_iff_ne.2 (by omega)
  have hwd : IntKind.i64.wrap ((dep : Int) + 1) = (dep : Int) + 1 := IntWalk.i64_in _ (by omega)
  obtain ⟨KD, HKD⟩ : ∃ z : Int, Hd (z = if df then 3 else 1) := ⟨_, ⟨rfl⟩⟩
  obtain ⟨cl', HCL⟩ : ∃ q : List Ci, Hd (q = cl ++ [(⟨fn, (-1 : Int), df, 4, 0, arg⟩ : Ci)]) := ⟨_, ⟨rfl⟩⟩
  have HC1 : Hd (cl.length + 1 = cl'.length) := ⟨by rw [HCL.out, List.length_append]; rfl⟩
  have HC2 : Hd (cCis cl ++ #[Value.int .i64 fn, .int .i64 ((-1 : Int)), .bool df, .int .i64 4, .int .i64 0, .int .i64 arg].toList = cCis cl') := ⟨by rw [HCL.out, cCis_snoc]; rfl⟩
  obtain ⟨t', HT⟩ : ∃ q : List Ev, Hd (q = t ++ [(⟨KD, fn, arg⟩ : Ev)]) := ⟨_, ⟨rfl⟩⟩
  obtain ⟨ow', HO⟩ : ∃ q : List Int, Hd (q = ow ++ [(cl.length : Int)]) := ⟨_, ⟨rfl⟩⟩
  have HTM : Hd (tellM (⟨mk, sh, dep, deep, t, ow, cl', ps.map (·.p), rs⟩ : Ma) KD fn arg cl.length = (⟨mk, sh, dep, deep, t', ow', cl', ps.map (·.p), rs⟩ : Ma)) := ⟨by rw [HT.out, HO.out]; rfl⟩
  have HSTM : Hd (startM (⟨mk, sh, dep, deep, t, ow, cl, ps.map (·.p), rs⟩ : Ma) fn arg (none : Option Fr) df = ((⟨mk, sh, (dep + 1), (max deep (dep + 1)), t', ow', cl', ps.map (·.p), rs⟩ : Ma), (⟨cl.length, fn, [arg, 0, 0, 0], [], df, false, false, 1, -1⟩ : Fr))) := ⟨by rw [HT.out, HO.out, HCL.out, HKD.out]; rfl⟩
  clear hdep HCL HT HO
  go_enter Try.func131, Try.ntmps131
  go_upto_if 43 with fail
  go_cut [13] (fun v13 wx => v13 = .int .i64 KD ∧ ExtI w wx ∧ SepI wx (pts w.heap.size (.cells #[Value.int .i64 (cl.length : Int), .int .i64 fn, .int .i64 arg, .int .i64 0, .int .i64 0, .int .i64 0, .slice none 0 0, .pointer none, .bool df, .bool false, .bool false, .int .i64 1, .int .i64 (-1)] 154 (0, 0)) * (pts gm (.cells #[Value.slice A n c, .int .i64 fuel, .int .i64 (mk : Int), .int .i64 sh, .int .i64 (dep : Int), .int .i64 (deep : Int), .slice A1 t.length c1, .slice A2 ow.length c2, .slice A3 cl.length c3, .slice A4 ps.length c4, .slice A5 rs.length c5, .map (some bm), .int .i64 0, .int .i64 0, .slice none 0 0, .int .i64 0] 98 (0, 0)) * (Row 75 3 (.slice A1 t.length c1) t.length (cEvs t) * (Row 3 1 (.slice A2 ow.length c2) ow.length (ints ow) * (Row 92 6 (.slice A3 cl.length c3) cl.length (cCis cl) * (Row 78 9 (.slice A4 ps.length c4) ps.length (cPvs ps) * (stars (ps.map unH) * (Row 90 3 (.slice A5 rs.length c5) rs.length (cRcs rs) * (MapH bm mk * (ParH (none : Option (Nat × Value)) (none : Option Fr) * (S))))))))))))
  case first =>
    cases df
    · obtain rfl : KD = 1 := by rw [HKD.out]; rfl
      clear HSTM
      go_wp2
      go_meet
      exact ⟨rfl, inferInstance, SepI.cast (S := _) inferInstance (by rfl)⟩
    · obtain rfl : KD = 3 := by rw [HKD.out]; rfl
      clear HSTM
      go_wp2
      go_meet
      exact ⟨rfl, inferInstance, SepI.cast (S := _) inferInstance (by rfl)⟩
  case rest =>
  obtain ⟨rfl, HEd, HSd⟩ := hcut
  clear H1
  go_wp2_with (first | (at_builtin; go_must (refine ev_append (v := .slice A3 cl.length c3) rfl _ _ 93 rfl rfl 48 _ Try.underlying93 info_ci rfl (by decide) (by decide) _ 1 1 rfl rfl (by simp [Value.oneCell']) (by omega) ?_); intro v5 w5 HS5 HE5; replace HS5 := Row.as HS5 HC1.out HC2.out; obtain ⟨A7, c7, rfl, hc7, hc7'⟩ := Row.form HS5; clear hc7 hc7') | (go_at_call 148; refine (@impl_tell (pts w.heap.size (.cells #[Value.int .i64 (cl.length : Int), .int .i64 fn, .int .i64 arg, .int .i64 0, .int .i64 0, .int .i64 0, .slice none 0 0, .pointer none, .bool df, .bool false, .bool false, .int .i64 1, .int .i64 (-1)] 154 (0, 0)) * (ParH (none : Option (Nat × Value)) (none : Option Fr) * (S))) _ gm A n c fuel (⟨mk, sh, dep, deep, t, ow, cl', ps.map (·.p), rs⟩ : Ma) (Mach.shut ⟨A1, c1, A2, c2, A7, c7, A4, c4, A5, c5, bm, ps⟩ rfl (SepI.cast (Ent.sep (S := _) (T := pts gm (.cells (#[Value.slice A n c, .int .i64 fuel, .int .i64 (mk : Int), .int .i64 sh, .int .i64 (dep : Int), .int .i64 (deep : Int), .slice A1 t.length c1, .slice A2 ow.length c2, .slice A3 cl.length c3, .slice A4 ps.length c4, .slice A5 rs.length c5, .map (some bm), .int .i64 0, .int .i64 0, .slice none 0 0, .int .i64 0].setIfInBounds 8 (.slice A7 cl'.length c7)) 98 (0, 0)) * (Row 75 3 (.slice A1 t.length c1) t.length (cEvs t) * (Row 3 1 (.slice A2 ow.length c2) ow.length (ints ow) * (Row 92 6 (.slice A7 cl'.length c7) cl'.length (cCis cl') * (Row 78 9 (.slice A4 ps.length c4) ps.length (cPvs ps) * (stars (ps.map unH) * (Row 90 3 (.slice A5 rs.length c5) rs.length (cRcs rs) * (MapH bm mk * (pts w.heap.size (.cells #[Value.int .i64 (cl.length : Int), .int .i64 fn, .int .i64 arg, .int .i64 0, .int .i64 0, .int .i64 0, .slice none 0 0, .pointer none, .bool df, .bool false, .bool false, .int .i64 1, .int .i64 (-1)] 154 (0, 0)) * (ParH (none : Option (Nat × Value)) (none : Option Fr) * (S))))))))))) inferInstance inferInstance) (by rfl))) (by simp only; omega) (by simp only; omega) KD fn arg cl.length).mono ?_; rintro e w4 ⟨rfl, HP⟩; rw [HTM.out] at HP; have HE4 := HP.ext; obtain ⟨⟨B1, b1, B2, b2, B3, b3, B4, b4, B5, b5, bn, qs⟩, hqs, H5⟩ := Mach.open HP.sep; clear HP; simp only at hqs; have HQS := Hd.mk hqs; clear hqs; unfold MachC at H5; simp only at H5))
  go_upto_region 13 with fail
  go_cut [] (fun wx => ExtI w wx ∧ SepI wx (pts gm (.cells ((#[Value.slice A n c, .int .i64 fuel, .int .i64 (mk : Int), .int .i64 sh, .int .i64 (dep : Int), .int .i64 (deep : Int), .slice B1 t'.length b1, .slice B2 ow'.length b2, .slice B3 cl'.length b3, .slice B4 qs.length b4, .slice B5 rs.length b5, .map (some bn), .int .i64 0, .int .i64 0, .slice none 0 0, .int .i64 0].setIfInBounds 4 (.int .i64 ((dep : Int) + 1))).setIfInBounds 5 (.int .i64 (max (deep : Int) ((dep : Int) + 1)))) 98 (0, 0)) * (Row 75 3 (.slice B1 t'.length b1) t'.length (cEvs t') * (Row 3 1 (.slice B2 ow'.length b2) ow'.length (ints ow') * (Row 92 6 (.slice B3 cl'.length b3) cl'.length (cCis cl') * (Row 78 9 (.slice B4 qs.length b4) qs.length (cPvs qs) * (stars (qs.map unH) * (Row 90 3 (.slice B5 rs.length b5) rs.length (cRcs rs) * (MapH bn mk * (pts w.heap.size (.cells #[Value.int .i64 (cl.length : Int), .int .i64 fn, .int .i64 arg, .int .i64 0, .int .i64 0, .int .i64 0, .slice none 0 0, .pointer none, .bool df, .bool false, .bool false, .int .i64 1, .int .i64 (-1)] 154 (0, 0)) * (ParH (none : Option (Nat × Value)) (none : Option Fr) * (S))))))))))))
  case first =>
    have H5' := H5
    by_cases hmx : (deep : Int) < (dep : Int) + 1
    · refine wp_region_W 10 13 (by kernel_rfl) (by kernel_rfl) (fun w' => w'.cell? ⟨gm, 5, none⟩ = some (.int .i64 (deep : Int)) ∧ w'.cell? ⟨gm, 4, none⟩ = some (.int .i64 ((dep : Int) + 1))) ⟨cb, cb⟩ (fun hHeld => ?_)
      refine tkp 0 hHeld ?_
      refine tkp 1 hHeld ?_
      refine tkp 2 hHeld ?_
      refine tkp 3 hHeld ?_
      refine tkl 4 hHeld ?_
      refine tkp 5 hHeld ?_
      refine tkp 6 hHeld ?_
      refine tkp 7 hHeld ?_
      refine tkl 8 hHeld ?_
      refine tkp 9 hHeld ?_
      refine wpAnyW_done (by kernel_rfl) ?_
      go_wp2
      go_meet
      exact ⟨inferInstance, SepI.cast (Ent.sep (S := _) (T := pts gm (.cells ((#[Value.slice A n c, .int .i64 fuel, .int .i64 (mk : Int), .int .i64 sh, .int .i64 (dep : Int), .int .i64 (deep : Int), .slice B1 t'.length b1, .slice B2 ow'.length b2, .slice B3 cl'.length b3, .slice B4 qs.length b4, .slice B5 rs.length b5, .map (some bn), .int .i64 0, .int .i64 0, .slice none 0 0, .int .i64 0].setIfInBounds 4 (.int .i64 ((dep : Int) + 1))).setIfInBounds 5 (.int .i64 ((dep : Int) + 1))) 98 (0, 0)) * (Row 75 3 (.slice B1 t'.length b1) t'.length (cEvs t') * (Row 3 1 (.slice B2 ow'.length b2) ow'.length (ints ow') * (Row 92 6 (.slice B3 cl'.length b3) cl'.length (cCis cl') * (Row 78 9 (.slice B4 qs.length b4) qs.length (cPvs qs) * (stars (qs.map unH) * (Row 90 3 (.slice B5 rs.length b5) rs.length (cRcs rs) * (MapH bn mk * (pts w.heap.size (.cells #[Value.int .i64 (cl.length : Int), .int .i64 fn, .int .i64 arg, .int .i64 0, .int .i64 0, .int .i64 0, .slice none 0 0, .pointer none, .bool df, .bool false, .bool false, .int .i64 1, .int .i64 (-1)] 154 (0, 0)) * (ParH (none : Option (Nat × Value)) (none : Option Fr) * (S))))))))))) inferInstance inferInstance) (by rw [show max (deep : Int) ((dep : Int) + 1) = (dep : Int) + 1 from by omega])⟩
    · refine wp_region_W 10 13 (by kernel_rfl) (by kernel_rfl) (fun w' => w'.cell? ⟨gm, 5, none⟩ = some (.int .i64 (deep : Int)) ∧ w'.cell? ⟨gm, 4, none⟩ = some (.int .i64 ((dep : Int) + 1))) ⟨cb, cb⟩ (fun hHeld => ?_)
      refine tkp 0 hHeld ?_
      refine tkp 1 hHeld ?_
      refine tkp 2 hHeld ?_
      refine tkp 3 hHeld ?_
      refine tkl 4 hHeld ?_
      refine tkp 5 hHeld ?_
      refine tkp 6 hHeld ?_
      refine tkp 7 hHeld ?_
      refine tkl 8 hHeld ?_
      refine tkp 9 hHeld ?_
      refine wpAnyW_done (by kernel_rfl) ?_
      go_wp2
      go_meet
      exact ⟨inferInstance, SepI.cast (Ent.sep (S := _) (T := pts gm (.cells ((#[Value.slice A n c, .int .i64 fuel, .int .i64 (mk : Int), .int .i64 sh, .int .i64 (dep : Int), .int .i64 (deep : Int), .slice B1 t'.length b1, .slice B2 ow'.length b2, .slice B3 cl'.length b3, .slice B4 qs.length b4, .slice B5 rs.length b5, .map (some bn), .int .i64 0, .int .i64 0, .slice none 0 0, .int .i64 0].setIfInBounds 4 (.int .i64 ((dep : Int) + 1))).setIfInBounds 5 (.int .i64 (deep : Int))) 98 (0, 0)) * (Row 75 3 (.slice B1 t'.length b1) t'.length (cEvs t') * (Row 3 1 (.slice B2 ow'.length b2) ow'.length (ints ow') * (Row 92 6 (.slice B3 cl'.length b3) cl'.length (cCis cl') * (Row 78 9 (.slice B4 qs.length b4) qs.length (cPvs qs) * (stars (qs.map unH) * (Row 90 3 (.slice B5 rs.length b5) rs.length (cRcs rs) * (MapH bn mk * (pts w.heap.size (.cells #[Value.int .i64 (cl.length : Int), .int .i64 fn, .int .i64 arg, .int .i64 0, .int .i64 0, .int .i64 0, .slice none 0 0, .pointer none, .bool df, .bool false, .bool false, .int .i64 1, .int .i64 (-1)] 154 (0, 0)) * (ParH (none : Option (Nat × Value)) (none : Option Fr) * (S))))))))))) inferInstance inferInstance) (by rw [show max (deep : Int) ((dep : Int) + 1) = (deep : Int) from by omega])⟩
  case rest =>
  obtain ⟨HEm, HSm⟩ := hcut
  clear H5
  have hmax : ((max deep (dep + 1) : Nat) : Int) = max (deep : Int) ((dep : Int) + 1) := by omega
  have HMX := Hd.mk hmax
  clear hmax
  go_wp2_with fail
  refine (@impl_body L fu P Q F HI.out HLL.out HF.out gm A n c bs HBS.out HN.out d HCC.out S _ (⟨mk, sh, (dep + 1), (max deep (dep + 1)), t', ow', cl', ps.map (·.p), rs⟩ : Ma) (⟨cl.length, fn, [arg, 0, 0, 0], [], df, false, false, 1, -1⟩ : Fr) st (none : Option (Nat × Value)) w.heap.size rdA bd (by rw [HPAR.out, ← HFU.out]; exact MF.shut ⟨B1, b1, B2, b2, B3, b3, B4, b4, B5, b5, bn, qs⟩ ⟨⟨arg, 0, 0, 0⟩, none, 0⟩ HQS.out rfl (SepI.cast (Row.nil0 (Ent.sep (S := _) (T := pts w.heap.size (.cells #[Value.int .i64 (cl.length : Int), .int .i64 fn, .int .i64 arg, .int .i64 0, .int .i64 0, .int .i64 0, .slice none 0 0, .pointer none, .bool df, .bool false, .bool false, .int .i64 1, .int .i64 (-1)] 154 (0, 0)) * (pts gm (.cells ((#[Value.slice A n c, .int .i64 fuel, .int .i64 (mk : Int), .int .i64 sh, .int .i64 (dep : Int), .int .i64 (deep : Int), .slice B1 t'.length b1, .slice B2 ow'.length b2, .slice B3 cl'.length b3, .slice B4 qs.length b4, .slice B5 rs.length b5, .map (some bn), .int .i64 0, .int .i64 0, .slice none 0 0, .int .i64 0].setIfInBounds 4 (.int .i64 ((dep : Int) + 1))).setIfInBounds 5 (.int .i64 (max (deep : Int) ((dep : Int) + 1)))) 98 (0, 0)) * (Row 75 3 (.slice B1 t'.length b1) t'.length (cEvs t') * (Row 3 1 (.slice B2 ow'.length b2) ow'.length (ints ow') * (Row 92 6 (.slice B3 cl'.length b3) cl'.length (cCis cl') * (Row 78 9 (.slice B4 qs.length b4) qs.length (cPvs qs) * (stars (qs.map unH) * (Row 90 3 (.slice B5 rs.length b5) rs.length (cRcs rs) * (MapH bn mk * (ParH (none : Option (Nat × Value)) (none : Option Fr) * (S))))))))))) inferInstance inferInstance) 191 2) (by unfold FrC MachC; simp only []; rw [HMX.out]; exact star_left _ _ _))) (by rw [HPAR.out]; rfl) (by have h := HST.out; rw [HSTM.out] at h; exact h) rfl (by have h := HDP.out; show dep + 1 + d = 8; omega) HMD.out).mono ?_
  intro e w5 hP
  have hr1 := HR1.out
  rw [HSTM.out] at hr1
  rw [HPAR.out, show bodyM (callM L fu d) L fu (fu + 1) (⟨mk, sh, (dep + 1), (max deep (dep + 1)), t', ow', cl', ps.map (·.p), rs⟩ : Ma) (⟨cl.length, fn, [arg, 0, 0, 0], [], df, false, false, 1, -1⟩ : Fr) (none : Option Fr) 0 = R1 from hr1, ← HFU.out] at hP
  have HD0 : Hd (dep + 1 = st.length + 1) := ⟨by have h := HI.out.dep _ _ HST.out; rw [HSTM.out] at h; exact h⟩
  clear hr1 HR1 HSTM HSm HST HTM
  cases R1 with
  | spent m2 =>
    obtain ⟨rfl, HP⟩ := hP
    have HS6 := HP.sep
    have HE6 := HP.ext
    clear HP
    unfold spentE
    go_wp2
    exact ⟨rfl, rfl, Post.mk' (Ent.sep (S := _) (T := Mach gm A n c fuel m2 * S) inferInstance inferInstance) inferInstance⟩
  | ok m2 x =>
    obtain ⟨f2, par2⟩ := x
    obtain ⟨hb1, hb2, hb3, hb4⟩ := HBD.out
    have HB1 := Hd.mk hb1
    obtain ⟨rfl, HP⟩ := hP
    have HS6 := HP.sep
    have HE6 := HP.ext
    obtain ⟨R2, hR2⟩ : ∃ R2, runsM (callM L fu d) f2.runs.length m2 f2 = R2 := ⟨_, rfl⟩
    have hdp2 : m2.depth + d = 8 := by
      have h1 := HI.out.dep _ _ hb1
      have h2 := HDP.out
      have h3 := HD0.out
      have h4 := putHead_lenN (par := par2) (st := st) hb3
      simp only [List.length_cons] at h1
      omega
    have HR2 : Hd (bodyO (callM L fu d) (.ok m2 (f2, par2)) = runO par2 R2) := ⟨by rw [← hR2]; rfl⟩
    have HIR : Hd (InR P (callM L fu d) R2 (putHead par2 st) d f2.runs.length m2 f2) := ⟨⟨hb1, rfl, hdp2, hR2⟩⟩
    clear HP hb1 hb2 hb3 hb4 HBD hR2 hdp2
    go_wp2_with fail
    go_loopg [] (f2.runs.length) (fun gk wr => ∃ (m : Ma) (f : Fr), ExtI w wr ∧ Hd (InR P (callM L fu d) R2 (putHead par2 st) d gk m f) ∧ SepI wr (Mach gm A n c fuel m * (FrH w.heap.size (.pointer none) f * (ParH (none : Option (Nat × Value)) par2 * S))))
    case atStart => exact ⟨m2, f2, inferInstance, HIR, HS6⟩
    case round =>
    clear HIR HS6
    obtain ⟨m, f, HX, HIR, HSR⟩ := hrel
    have hfo := HI.out.fr _ _ HIR.out.p f List.mem_cons_self
    have hsm := HI.out.small _ _ HIR.out.p
    have hdl := HI.out.dep _ _ HIR.out.p
    have HFO := Hd.mk hfo
    have HSM := Hd.mk hsm
    have HDL := Hd.mk hdl
    clear hfo hsm hdl
    obtain ⟨⟨r, A0, c0⟩, hr, H1⟩ := FM.open HSR
    obtain ⟨id, fn, rg, rn, df, ct, lv, en, pa⟩ := f
    simp only at hr
    subst hr
    unfold FrC at H1
    simp only at H1
    have hrn := HFO.out.2
    simp only at hrn
    by_cases hz : rn.length = 0
    · as_aux_lemma =>
        have HQ : Hd (R2 = .ok m (⟨id, fn, r.l, rn, df, ct, lv, en, pa⟩ : Fr)) := ⟨HIR.out.done hz⟩
        have hz0 : ¬ (0 : Int) < rn.length := by omega
        clear hz HSR
        go_wp2_with fail
        refine (@impl_finish (ParH (none : Option (Nat × Value)) par2 * S) _ gm A n c fuel m w.heap.size (.pointer none) (⟨id, fn, r.l, rn, df, ct, lv, en, pa⟩ : Fr) (FM.shut ⟨r, A0, c0⟩ rfl (SepI.cast (Ent.sep (S := _) (T := pts w.heap.size (.cells #[Value.int .i64 (id : Int), .int .i64 fn, .int .i64 r.a, .int .i64 r.b, .int .i64 r.c, .int .i64 r.d, .slice A0 rn.length c0, .pointer none, .bool df, .bool ct, .bool lv, .int .i64 en, .int .i64 pa] 154 (0, 0)) * (Row 191 2 (.slice A0 rn.length c0) rn.length (cPr rn) * (Mach gm A n c fuel m * (ParH (none : Option (Nat × Value)) par2 * (S))))) inferInstance inferInstance) (by rfl))) HSM.out HFO.out.1.id HFO.out.1.en HFO.out.1.pa).mono ?_
        rintro e w6 ⟨rfl, HP⟩
        obtain ⟨M4, hM4⟩ : ∃ M4, finishM m (⟨id, fn, r.l, rn, df, ct, lv, en, pa⟩ : Fr) = M4 := ⟨_, rfl⟩
        have HM4 := Hd.mk hM4
        have hd4 : M4.depth = m.depth := by rw [← hM4, finishM_depth]
        have hd5 := HDL.out
        rw [hM4] at HP
        have HE6 := HP.ext
        obtain ⟨⟨B1, b1, B2, b2, B3, b3, B4, b4, B5, b5, bn, qs⟩, hqs, H7⟩ := Mach.open HP.sep
        clear HP hM4
        obtain ⟨mk4, sh4, dep4, deep4, t4, ow4, cl4, pn4, rs4⟩ := M4
        simp only at hqs hd4
        simp only [List.length_cons] at hd5
        subst hqs
        unfold MachC at H7
        simp only at H7
        have hdd := HSM.out.dp
        have hw4 : IntKind.i64.wrap ((dep4 : Int) - 1) = (dep4 : Int) - 1 := IntWalk.i64_in _ (by omega)
        have HD4 : Hd (((dep4 - 1 : Nat) : Int) = (dep4 : Int) - 1) := ⟨by omega⟩
        clear hd4 hd5 hdd
        go_wp2
        go_ret
        rw [HR2.out, HQ.out]
        refine ⟨w.heap.size, rfl, ?_⟩
        rw [HM4.out]
        refine Post.mk' (Mach.shut ⟨B1, b1, B2, b2, B3, b3, B4, b4, B5, b5, bn, qs⟩ rfl (SepI.cast (Ent.sep (S := _) (T := pts gm (.cells (#[Value.slice A n c, .int .i64 fuel, .int .i64 (mk4 : Int), .int .i64 sh4, .int .i64 (dep4 : Int), .int .i64 (deep4 : Int), .slice B1 t4.length b1, .slice B2 ow4.length b2, .slice B3 cl4.length b3, .slice B4 qs.length b4, .slice B5 rs4.length b5, .map (some bn), .int .i64 0, .int .i64 0, .slice none 0 0, .int .i64 0].setIfInBounds 4 (.int .i64 ((dep4 : Int) - 1))) 98 (0, 0)) * (Row 75 3 (.slice B1 t4.length b1) t4.length (cEvs t4) * (Row 3 1 (.slice B2 ow4.length b2) ow4.length (ints ow4) * (Row 92 6 (.slice B3 cl4.length b3) cl4.length (cCis cl4) * (Row 78 9 (.slice B4 qs.length b4) qs.length (cPvs qs) * (stars (qs.map unH) * (Row 90 3 (.slice B5 rs4.length b5) rs4.length (cRcs rs4) * (MapH bn mk4 * (FrH w.heap.size (.pointer none) (⟨id, fn, r.l, rn, df, ct, lv, en, pa⟩ : Fr) * (ParH (none : Option (Nat × Value)) par2 * (S))))))))))) inferInstance inferInstance) (by unfold MachC; simp only []; rw [HD4.out]; rfl))) inferInstance
    · obtain ⟨k, hk⟩ : ∃ k, rn.length = k + 1 := ⟨rn.length - 1, by omega⟩
      obtain ⟨x, hx⟩ := get_ex (xs := rn) (k := k) (by omega)
      obtain ⟨ga, rfl⟩ := Row.addr (SepI.pickR H1 (inferInstance : PickR _ _ _ (.slice A0 rn.length c0) _ _ _)) (by omega)
      rw [hk] at H1 hrn
      have hxd : rn.getD k (0, 0) = x := by rw [List.getD_eq_getElem?_getD, hx]; rfl
      obtain ⟨rk, hrk⟩ : ∃ rk, rk = rn.take k := ⟨_, rfl⟩
      obtain ⟨o, ho⟩ : ∃ o, callM L fu d m x.1 x.2 (some (⟨id, fn, r.l, rk, df, ct, lv, en, pa⟩ : Fr)) true = o := ⟨_, rfl⟩
      have hrd := HIR.out.round HI.out.al HI.out.dep (along2_call HI.out.al d) (k := k) hk (o := o) (by simp only; rw [hxd, ← hrk]; exact ho)
      simp only at hrd
      rw [hxd, ← hrk] at hrd
      have HRD := Hd.mk hrd
      have HO := Hd.mk ho
      have HLK : Hd (k = rk.length) := ⟨by rw [hrk, List.length_take]; omega⟩
      have HCK : Hd ((cPr rn).take (k * 2) = cPr rk) := ⟨by rw [hrk, cPr_take]⟩
      have d1 : ∀ F, CellAt (Row 191 2 (.slice (some ⟨ga, 0, none⟩) (k + 1) c0) (k + 1) (cPr rn) * F) ga (k * 2) (.int .i64 x.1) := fun F => Row.cellAt (cPr_get hx).1
      have d2 : ∀ F, CellAt (Row 191 2 (.slice (some ⟨ga, 0, none⟩) (k + 1) c0) (k + 1) (cPr rn) * F) ga (k * 2 + 1) (.int .i64 x.2) := fun F => Row.cellAt (cPr_get hx).2
      have hwk : IntKind.i64.wrap (((k + 1 : Nat) : Int) - 1) = (k : Int) := by rw [show ((k + 1 : Nat) : Int) - 1 = (k : Int) from by omega]; exact IntWalk.i64_in _ (by omega)
      have hz0 : (0 : Int) < ((k + 1 : Nat) : Int) := by omega
      have hwk2 : IntKind.i64.wrap (k : Int) = (k : Int) := IntWalk.i64_in _ (by omega)
      have hkk : (k : Int) < (k : Int) + 1 := by omega
      have hkc : k ≤ c0 := by
        obtain ⟨A', c', e, h1, _⟩ := Row.form (SepI.pickR H1 (inferInstance : PickR _ _ _ (.slice (some ⟨ga, 0, none⟩) (k + 1) c0) _ _ _))
        injection e with _ _ e3
        omega
      have HRDP := Hd.mk HIR.out.dep
      clear hz hk hx hxd hrk ho hrd HSR HFO HSM HDL HIR
      go_wp2
      refine wp_region_W 13 14 (by kernel_rfl) (by kernel_rfl) (fun w' => w'.cell? ⟨w.heap.size, 6, none⟩ = some (.slice (some ⟨ga, 0, none⟩) (k + 1) c0) ∧ w'.cell? ⟨ga, k * 2, none⟩ = some (.int .i64 x.1) ∧ w'.cell? ⟨ga, k * 2 + 1, none⟩ = some (.int .i64 x.2)) ⟨cb, cell_at _ _ _ _ _, cell_at _ _ _ _ _⟩ (fun hHeld => ?_)
      refine tkp 0 hHeld ?_
      refine tkp 1 hHeld ?_
      refine tkp 2 hHeld ?_
      refine tkl 3 hHeld ?_
      refine tkp 4 hHeld ?_
      refine tkp 5 hHeld ?_
      refine tkp 6 hHeld ?_
      refine tkl 7 hHeld ?_
      refine tkp 8 hHeld ?_
      refine tkp 9 hHeld ?_
      refine tkp 10 hHeld ?_
      refine tkl 11 hHeld ?_
      refine wpAnyW_one false (i := 12) (by kernel_rfl) rfl (by kernel_rfl) (by rfl) (fun KK hKK => ?_)
      refine st_list rfl ?_
      go_wp2
      refine ⟨rfl, ?_⟩
      refine hKK.out _ _ (.inr ⟨cb, cell_at _ _ _ _ _, cell_at _ _ _ _ _⟩) (fun hHeld => ?_)
      clear hKK KK
      try simp only [Act.put, List.setIfInBounds_toArray, List.set_cons_zero, List.set_cons_succ]
      refine wpAnyW_done (by kernel_rfl) ?_
      go_wp2
      refine wp_region_W 12 15 (by kernel_rfl) (by kernel_rfl) (fun w' => w'.cell? ⟨w.heap.size, 6, none⟩ = some (.slice (some ⟨ga, 0, none⟩) (k + 1) c0)) (cb) (fun hHeld => ?_)
      refine tkp 0 hHeld ?_
      refine tkp 1 hHeld ?_
      refine tkp 2 hHeld ?_
      refine tkp 3 hHeld ?_
      refine tkl 4 hHeld ?_
      refine tkp 5 hHeld ?_
      refine tkp 6 hHeld ?_
      refine tkp 7 hHeld ?_
      refine tkl 8 hHeld ?_
      refine tkp 9 hHeld ?_
      refine tkp 10 hHeld ?_
      refine tkp 11 hHeld ?_
      refine wpAnyW_done (by kernel_rfl) ?_
      go_wp2_with fail
      refine (HCC.out (pts wr.heap.size (.cells #[.int .i64 x.1, .int .i64 x.2] 191 (0, 0)) * (ParH (none : Option (Nat × Value)) par2 * S)) _ m ((⟨id, fn, r.l, rk, df, ct, lv, en, pa⟩ : Fr) :: putHead par2 st) x.1 x.2 (some (w.heap.size, pvOf (none : Option (Nat × Value)))) true inferInstance inferInstance (by rw [← HFU.out]; exact FM.shut ⟨r, some ⟨ga, 0, none⟩, c0⟩ rfl (SepI.cast (Row.shrinkG (i := k) (Ent.sep (S := _) (T := Row 191 2 (.slice (some ⟨ga, 0, none⟩) (k + 1) c0) (k + 1) (cPr rn) * (pts w.heap.size (.cells (#[Value.int .i64 (id : Int), .int .i64 fn, .int .i64 r.a, .int .i64 r.b, .int .i64 r.c, .int .i64 r.d, .slice (some ⟨ga, 0, none⟩) (k + 1) c0, .pointer none, .bool df, .bool ct, .bool lv, .int .i64 en, .int .i64 pa].setIfInBounds 6 (.slice (some ⟨ga, 0, none⟩) k c0)) 154 (0, 0)) * (Mach gm A n c fuel m * (pts wr.heap.size (.cells #[.int .i64 x.1, .int .i64 x.2] 191 (0, 0)) * (ParH (none : Option (Nat × Value)) par2 * (S)))))) inferInstance inferInstance) (by omega)) (by unfold FrC; simp only []; rw [HCK.out, ← HLK.out]; exact star_left _ _ _))) rfl HRD.out.2.1 HRDP.out).mono ?_
      intro e w6 hP
      rw [show callM L fu d m x.1 x.2 ((⟨id, fn, r.l, rk, df, ct, lv, en, pa⟩ : Fr) :: putHead par2 st).head? true = o from HO.out, ← HFU.out] at hP
      clear HO d1 d2
      cases o with
      | spent m3 =>
        have HQ := Hd.mk (HRD.out.2.2.1 m3 rfl)
        obtain ⟨rfl, HP⟩ := hP
        have HS7 := HP.sep
        have HE7 := HP.ext
        clear HP
        unfold spentE
        go_wp2
        refine ⟨rfl, ?_⟩
        rw [HR2.out, HQ.out]
        exact ⟨rfl, Post.mk' (Ent.sep (S := _) (T := Mach gm A n c fuel m3 * S) inferInstance inferInstance) inferInstance⟩
      | ok m3 y =>
        obtain ⟨pf, dd⟩ := y
        obtain ⟨xr, rfl, hF, hIN⟩ := HRD.out.2.2.2 m3 pf dd rfl
        obtain ⟨gd, rfl, HP⟩ := hP
        have hdn := HI.out.done _ _ _ hF
        have HPA := Hd.mk hdn.1.pa
        have HFA := Hd.mk (hdn.2 _ List.mem_cons_self).pa
        have HIN := Hd.mk hIN
        have HKG := Hd.mk HRD.out.1
        have HS7 : SepI w6 (Mach gm A n c fuel m3 * (FrH gd (.pointer (some ⟨w.heap.size, 0, none⟩)) dd * (FrH w.heap.size (.pointer none) (⟨id, fn, xr, rk, df, ct, lv, en, pa⟩ : Fr) * (pts wr.heap.size (.cells #[.int .i64 x.1, .int .i64 x.2] 191 (0, 0)) * (ParH (none : Option (Nat × Value)) par2 * S))))) := HP.sep
        have HE7 := HP.ext
        clear HP hF hIN hdn HRD
        go_wp2_with fail
        refine (@impl_behind (pts wr.heap.size (.cells #[.int .i64 x.1, .int .i64 x.2] 191 (0, 0)) * (ParH (none : Option (Nat × Value)) par2 * S)) _ gm A n c fuel m3 w.heap.size (.pointer none) gd (.pointer (some ⟨w.heap.size, 0, none⟩)) (⟨id, fn, xr, rk, df, ct, lv, en, pa⟩ : Fr) dd (SepI.cast (S := _) inferInstance (by ac_rfl)) HFA.out HPA.out).mono ?_
        rintro e w7 ⟨rfl, HP⟩
        have HS8 := HP.sep
        have HE8 := HP.ext
        clear HP HS7
        go_wp2
        go_roundg k
        case measure => exact HKG.out
        case rel => exact ⟨_, _, inferInstance, HIN, Ent.sep (S := _) inferInstance inferInstance⟩
theorem putHead_lenP {par : Option Fr} {st : List Fr} (h : par.isSome = st.head?.isSome) : (putHead par st).length = st.length := by
  unfold putHead
  cases par <;> cases st <;> simp_all
set_option maxRecDepth 100000 in
set_option maxHeartbeats 16000000 in
theorem impl_callP {L : List (List St)} {fu : Nat} {P Q : Ma → List Fr → Prop} {F : Ma → Fr → List Fr → Prop} (I : Inv L fu P Q F) (hL : ProgOk L) (hfu : fu ≤ 100000) {gm : Nat} {A : Option Addr} {n c : Nat} {bs : List Bd} (hbs : bs.map (·.l) = L) (hn : bs.length = n) {d : Nat} (HC : CallW L fu P Q gm A n c bs d) (hmade : ∀ m st, P m st → m.made ≤ fu)
    (S : HP) (w : World) (m : Ma) (st : List Fr) (fn arg : Int) (gp : Nat) (up : Value) (p : Fr) (df : Bool) (rdA : Rd S A (cBds bs)) (bd : Bodies S bs) (H : SepI w (Mach gm A n c fu m * (ParH (some (gp, up)) (some p) * S))) (hpar : st.head? = (some p)) (hsp : SP L (TArg L) P Q m st fn arg df) (hdep : m.depth + (d + 1) = 8) :
    Calls Try.prog 131 #[.pointer (some ⟨gm, 0, none⟩), .int .i64 fn, .int .i64 arg, .pointer (some ⟨gp, 0, none⟩), .bool df] w (CallPW S gm A n c fu (some (gp, up)) (callM L fu (d + 1) m fn arg (some p) df) w) := by
  rw [callM_eq]
  have hst := hsp.start I.al
  have hsm := I.small _ _ hst
  have hbd := along2_body I.al (along2_call I.al d) df (fu + 1) _ _ st 0 hst rfl rfl
  rw [hpar] at hst hsm hbd
  obtain ⟨R1, hR1⟩ : ∃ R1, bodyM (callM L fu d) L fu (fu + 1) (startM m fn arg (some p) df).1 (startM m fn arg (some p) df).2 (some p) 0 = R1 := ⟨_, rfl⟩
  rw [hR1] at hbd ⊢
  have HBD := Hd.mk hbd
  have HST := Hd.mk hst
  have HI := Hd.mk I
  have HLL := Hd.mk hL
  have HCC := Hd.mk HC
  have HMD := Hd.mk hmade
  have HBS := Hd.mk hbs
  have HN := Hd.mk hn
  have HF := Hd.mk hfu
  have HR1 := Hd.mk hR1
  have HPAR := Hd.mk hpar
  obtain ⟨fuel, hfuel⟩ : ∃ fuel : Int, fuel = fu := ⟨_, rfl⟩
  have HFU := Hd.mk hfuel
  rw [← hfuel] at H ⊢
  clear hst hbd hR1 hpar hfuel hsp I hL HC hmade hbs hn hfu
  obtain ⟨⟨A1, c1, A2, c2, A3, c3, A4, c4, A5, c5, bm, ps⟩, hps, H1⟩ := Mach.open H
  obtain ⟨mk, sh, dep, deep, t, ow, cl, pn, rs⟩ := m
  simp only at hps hdep
  subst hps
  unfold MachC at H1
  simp only at H1
  clear H
  have ht := hsm.t
  have ho := hsm.o
  have hcl := hsm.c
  simp only [startM, tellM, List.length_append, List.length_cons, List.length_nil] at ht ho hcl
  clear hsm
  have HDP : Hd (dep + (d + 1) = 8) := ⟨hdep⟩
  have hd8 : ((dep : Int) == 8) = false := beq_eq_false_iff_ne.2 (by omega)
  have hwd : IntKind.i64.wrap ((dep : Int) + 1) = (dep : Int) + 1 := IntWalk.i64_in _ (by omega)
  obtain ⟨KD, HKD⟩ : ∃ z : Int, Hd (z = if df then 3 else 1) := ⟨_, ⟨rfl⟩⟩
  obtain ⟨cl', HCL⟩ : ∃ q : List Ci, Hd (q = cl ++ [(⟨fn, (p.id : Int), df, 4, 0, arg⟩ : Ci)]) := ⟨_, ⟨rfl⟩⟩
  have HC1 : Hd (cl.length + 1 = cl'.length) := ⟨by rw [HCL.out, List.length_append]; rfl⟩
  have HC2 : Hd (cCis cl ++ #[Value.int .i64 fn, .int .i64 ((p.id : Int)), .bool df, .int .i64 4, .int .i64 0, .int .i64 arg].toList = cCis cl') := ⟨by rw [HCL.out, cCis_snoc]; rfl⟩
  obtain ⟨t', HT⟩ : ∃ q : List Ev, Hd (q = t ++ [(⟨KD, fn, arg⟩ : Ev)]) := ⟨_, ⟨rfl⟩⟩
  obtain ⟨ow', HO⟩ : ∃ q : List Int, Hd (q = ow ++ [(cl.length : Int)]) := ⟨_, ⟨rfl⟩⟩
  have HTM : Hd (tellM (⟨mk, sh, dep, deep, t, ow, cl', ps.map (·.p), rs⟩ : Ma) KD fn arg cl.length = (⟨mk, sh, dep, deep, t', ow', cl', ps.map (·.p), rs⟩ : Ma)) := ⟨by rw [HT.out, HO.out]; rfl⟩
  have HSTM : Hd (startM (⟨mk, sh, dep, deep, t, ow, cl, ps.map (·.p), rs⟩ : Ma) fn arg (some p) df = ((⟨mk, sh, (dep + 1), (max deep (dep + 1)), t', ow', cl', ps.map (·.p), rs⟩ : Ma), (⟨cl.length, fn, [arg, 0, 0, 0], [], df, false, false, 1, -1⟩ : Fr))) := ⟨by rw [HT.out, HO.out, HCL.out, HKD.out]; rfl⟩
  have dP := par_cell S gp up p
  clear hdep HCL HT HO
  go_enter Try.func131, Try.ntmps131
  go_upto_if 43 with fail
  go_cut [13] (fun v13 wx => v13 = .int .i64 KD ∧ ExtI w wx ∧ SepI wx (pts w.heap.size (.cells #[Value.int .i64 (cl.length : Int), .int .i64 fn, .int .i64 arg, .int .i64 0, .int .i64 0, .int .i64 0, .slice none 0 0, .pointer (some ⟨gp, 0, none⟩), .bool df, .bool false, .bool false, .int .i64 1, .int .i64 (-1)] 154 (0, 0)) * (pts gm (.cells #[Value.slice A n c, .int .i64 fuel, .int .i64 (mk : Int), .int .i64 sh, .int .i64 (dep : Int), .int .i64 (deep : Int), .slice A1 t.length c1, .slice A2 ow.length c2, .slice A3 cl.length c3, .slice A4 ps.length c4, .slice A5 rs.length c5, .map (some bm), .int .i64 0, .int .i64 0, .slice none 0 0, .int .i64 0] 98 (0, 0)) * (Row 75 3 (.slice A1 t.length c1) t.length (cEvs t) * (Row 3 1 (.slice A2 ow.length c2) ow.length (ints ow) * (Row 92 6 (.slice A3 cl.length c3) cl.length (cCis cl) * (Row 78 9 (.slice A4 ps.length c4) ps.length (cPvs ps) * (stars (ps.map unH) * (Row 90 3 (.slice A5 rs.length c5) rs.length (cRcs rs) * (MapH bm mk * (ParH (some (gp, up)) (some p) * (S))))))))))))
  case first =>
    cases df
    · obtain rfl : KD = 1 := by rw [HKD.out]; rfl
      clear HSTM
      go_wp2
      go_meet
      exact ⟨rfl, inferInstance, SepI.cast (S := _) inferInstance (by rfl)⟩
    · obtain rfl : KD = 3 := by rw [HKD.out]; rfl
      clear HSTM
      go_wp2
      go_meet
      exact ⟨rfl, inferInstance, SepI.cast (S := _) inferInstance (by rfl)⟩
  case rest =>
  obtain ⟨rfl, HEd, HSd⟩ := hcut
  clear H1
  go_wp2_with (first | (at_builtin; go_must (refine ev_append (v := .slice A3 cl.length c3) rfl _ _ 93 rfl rfl 48 _ Try.underlying93 info_ci rfl (by decide) (by decide) _ 1 1 rfl rfl (by simp [Value.oneCell']) (by omega) ?_); intro v5 w5 HS5 HE5; replace HS5 := Row.as HS5 HC1.out HC2.out; obtain ⟨A7, c7, rfl, hc7, hc7'⟩ := Row.form HS5; clear hc7 hc7') | (go_at_call 148; refine (@impl_tell (pts w.heap.size (.cells #[Value.int .i64 (cl.length : Int), .int .i64 fn, .int .i64 arg, .int .i64 0, .int .i64 0, .int .i64 0, .slice none 0 0, .pointer (some ⟨gp, 0, none⟩), .bool df, .bool false, .bool false, .int .i64 1, .int .i64 (-1)] 154 (0, 0)) * (ParH (some (gp, up)) (some p) * (S))) _ gm A n c fuel (⟨mk, sh, dep, deep, t, ow, cl', ps.map (·.p), rs⟩ : Ma) (Mach.shut ⟨A1, c1, A2, c2, A7, c7, A4, c4, A5, c5, bm, ps⟩ rfl (SepI.cast (Ent.sep (S := _) (T := pts gm (.cells (#[Value.slice A n c, .int .i64 fuel, .int .i64 (mk : Int), .int .i64 sh, .int .i64 (dep : Int), .int .i64 (deep : Int), .slice A1 t.length c1, .slice A2 ow.length c2, .slice A3 cl.length c3, .slice A4 ps.length c4, .slice A5 rs.length c5, .map (some bm), .int .i64 0, .int .i64 0, .slice none 0 0, .int .i64 0].setIfInBounds 8 (.slice A7 cl'.length c7)) 98 (0, 0)) * (Row 75 3 (.slice A1 t.length c1) t.length (cEvs t) * (Row 3 1 (.slice A2 ow.length c2) ow.length (ints ow) * (Row 92 6 (.slice A7 cl'.length c7) cl'.length (cCis cl') * (Row 78 9 (.slice A4 ps.length c4) ps.length (cPvs ps) * (stars (ps.map unH) * (Row 90 3 (.slice A5 rs.length c5) rs.length (cRcs rs) * (MapH bm mk * (pts w.heap.size (.cells #[Value.int .i64 (cl.length : Int), .int .i64 fn, .int .i64 arg, .int .i64 0, .int .i64 0, .int .i64 0, .slice none 0 0, .pointer (some ⟨gp, 0, none⟩), .bool df, .bool false, .bool false, .int .i64 1, .int .i64 (-1)] 154 (0, 0)) * (ParH (some (gp, up)) (some p) * (S))))))))))) inferInstance inferInstance) (by rfl))) (by simp only; omega) (by simp only; omega) KD fn arg cl.length).mono ?_; rintro e w4 ⟨rfl, HP⟩; rw [HTM.out] at HP; have HE4 := HP.ext; obtain ⟨⟨B1, b1, B2, b2, B3, b3, B4, b4, B5, b5, bn, qs⟩, hqs, H5⟩ := Mach.open HP.sep; clear HP; simp only at hqs; have HQS := Hd.mk hqs; clear hqs; unfold MachC at H5; simp only at H5))
  go_upto_region 13 with fail
  go_cut [] (fun wx => ExtI w wx ∧ SepI wx (pts gm (.cells ((#[Value.slice A n c, .int .i64 fuel, .int .i64 (mk : Int), .int .i64 sh, .int .i64 (dep : Int), .int .i64 (deep : Int), .slice B1 t'.length b1, .slice B2 ow'.length b2, .slice B3 cl'.length b3, .slice B4 qs.length b4, .slice B5 rs.length b5, .map (some bn), .int .i64 0, .int .i64 0, .slice none 0 0, .int .i64 0].setIfInBounds 4 (.int .i64 ((dep : Int) + 1))).setIfInBounds 5 (.int .i64 (max (deep : Int) ((dep : Int) + 1)))) 98 (0, 0)) * (Row 75 3 (.slice B1 t'.length b1) t'.length (cEvs t') * (Row 3 1 (.slice B2 ow'.length b2) ow'.length (ints ow') * (Row 92 6 (.slice B3 cl'.length b3) cl'.length (cCis cl') * (Row 78 9 (.slice B4 qs.length b4) qs.length (cPvs qs) * (stars (qs.map unH) * (Row 90 3 (.slice B5 rs.length b5) rs.length (cRcs rs) * (MapH bn mk * (pts w.heap.size (.cells #[Value.int .i64 (cl.length : Int), .int .i64 fn, .int .i64 arg, .int .i64 0, .int .i64 0, .int .i64 0, .slice none 0 0, .pointer (some ⟨gp, 0, none⟩), .bool df, .bool false, .bool false, .int .i64 1, .int .i64 (-1)] 154 (0, 0)) * (ParH (some (gp, up)) (some p) * (S))))))))))))
  case first =>
    have H5' := H5
    by_cases hmx : (deep : Int) < (dep : Int) + 1
    · refine wp_region_W 10 13 (by kernel_rfl) (by kernel_rfl) (fun w' => w'.cell? ⟨gm, 5, none⟩ = some (.int .i64 (deep : Int)) ∧ w'.cell? ⟨gm, 4, none⟩ = some (.int .i64 ((dep : Int) + 1))) ⟨cb, cb⟩ (fun hHeld => ?_)
      refine tkp 0 hHeld ?_
      refine tkp 1 hHeld ?_
      refine tkp 2 hHeld ?_
      refine tkp 3 hHeld ?_
      refine tkl 4 hHeld ?_
      refine tkp 5 hHeld ?_
      refine tkp 6 hHeld ?_
      refine tkp 7 hHeld ?_
      refine tkl 8 hHeld ?_
      refine tkp 9 hHeld ?_
      refine wpAnyW_done (by kernel_rfl) ?_
      go_wp2
      go_meet
      exact ⟨inferInstance, SepI.cast (Ent.sep (S := _) (T := pts gm (.cells ((#[Value.slice A n c, .int .i64 fuel, .int .i64 (mk : Int), .int .i64 sh, .int .i64 (dep : Int), .int .i64 (deep : Int), .slice B1 t'.length b1, .slice B2 ow'.length b2, .slice B3 cl'.length b3, .slice B4 qs.length b4, .slice B5 rs.length b5, .map (some bn), .int .i64 0, .int .i64 0, .slice none 0 0, .int .i64 0].setIfInBounds 4 (.int .i64 ((dep : Int) + 1))).setIfInBounds 5 (.int .i64 ((dep : Int) + 1))) 98 (0, 0)) * (Row 75 3 (.slice B1 t'.length b1) t'.length (cEvs t') * (Row 3 1 (.slice B2 ow'.length b2) ow'.length (ints ow') * (Row 92 6 (.slice B3 cl'.length b3) cl'.length (cCis cl') * (Row 78 9 (.slice B4 qs.length b4) qs.length (cPvs qs) * (stars (qs.map unH) * (Row 90 3 (.slice B5 rs.length b5) rs.length (cRcs rs) * (MapH bn mk * (pts w.heap.size (.cells #[Value.int .i64 (cl.length : Int), .int .i64 fn, .int .i64 arg, .int .i64 0, .int .i64 0, .int .i64 0, .slice none 0 0, .pointer (some ⟨gp, 0, none⟩), .bool df, .bool false, .bool false, .int .i64 1, .int .i64 (-1)] 154 (0, 0)) * (ParH (some (gp, up)) (some p) * (S))))))))))) inferInstance inferInstance) (by rw [show max (deep : Int) ((dep : Int) + 1) = (dep : Int) + 1 from by omega])⟩
    · refine wp_region_W 10 13 (by kernel_rfl) (by kernel_rfl) (fun w' => w'.cell? ⟨gm, 5, none⟩ = some (.int .i64 (deep : Int)) ∧ w'.cell? ⟨gm, 4, none⟩ = some (.int .i64 ((dep : Int) + 1))) ⟨cb, cb⟩ (fun hHeld => ?_)
      refine tkp 0 hHeld ?_
      refine tkp 1 hHeld ?_
      refine tkp 2 hHeld ?_
      refine tkp 3 hHeld ?_
      refine tkl 4 hHeld ?_
      refine tkp 5 hHeld ?_
      refine tkp 6 hHeld ?_
      refine tkp 7 hHeld ?_
      refine tkl 8 hHeld ?_
      refine tkp 9 hHeld ?_
      refine wpAnyW_done (by kernel_rfl) ?_
      go_wp2
      go_meet
      exact ⟨inferInstance, SepI.cast (Ent.sep (S := _) (T := pts gm (.cells ((#[Value.slice A n c, .int .i64 fuel, .int .i64 (mk : Int), .int .i64 sh, .int .i64 (dep : Int), .int .i64 (deep : Int), .slice B1 t'.length b1, .slice B2 ow'.length b2, .slice B3 cl'.length b3, .slice B4 qs.length b4, .slice B5 rs.length b5, .map (some bn), .int .i64 0, .int .i64 0, .slice none 0 0, .int .i64 0].setIfInBounds 4 (.int .i64 ((dep : Int) + 1))).setIfInBounds 5 (.int .i64 (deep : Int))) 98 (0, 0)) * (Row 75 3 (.slice B1 t'.length b1) t'.length (cEvs t') * (Row 3 1 (.slice B2 ow'.length b2) ow'.length (ints ow') * (Row 92 6 (.slice B3 cl'.length b3) cl'.length (cCis cl') * (Row 78 9 (.slice B4 qs.length b4) qs.length (cPvs qs) * (stars (qs.map unH) * (Row 90 3 (.slice B5 rs.length b5) rs.length (cRcs rs) * (MapH bn mk * (pts w.heap.size (.cells #[Value.int .i64 (cl.length : Int), .int .i64 fn, .int .i64 arg, .int .i64 0, .int .i64 0, .int .i64 0, .slice none 0 0, .pointer (some ⟨gp, 0, none⟩), .bool df, .bool false, .bool false, .int .i64 1, .int .i64 (-1)] 154 (0, 0)) * (ParH (some (gp, up)) (some p) * (S))))))))))) inferInstance inferInstance) (by rw [show max (deep : Int) ((dep : Int) + 1) = (deep : Int) from by omega])⟩
  case rest =>
  obtain ⟨HEm, HSm⟩ := hcut
  clear H5
  have hmax : ((max deep (dep + 1) : Nat) : Int) = max (deep : Int) ((dep : Int) + 1) := by omega
  have HMX := Hd.mk hmax
  clear hmax
  go_wp2_with fail
  refine (@impl_body L fu P Q F HI.out HLL.out HF.out gm A n c bs HBS.out HN.out d HCC.out S _ (⟨mk, sh, (dep + 1), (max deep (dep + 1)), t', ow', cl', ps.map (·.p), rs⟩ : Ma) (⟨cl.length, fn, [arg, 0, 0, 0], [], df, false, false, 1, -1⟩ : Fr) st (some (gp, up)) w.heap.size rdA bd (by rw [HPAR.out, ← HFU.out]; exact MF.shut ⟨B1, b1, B2, b2, B3, b3, B4, b4, B5, b5, bn, qs⟩ ⟨⟨arg, 0, 0, 0⟩, none, 0⟩ HQS.out rfl (SepI.cast (Row.nil0 (Ent.sep (S := _) (T := pts w.heap.size (.cells #[Value.int .i64 (cl.length : Int), .int .i64 fn, .int .i64 arg, .int .i64 0, .int .i64 0, .int .i64 0, .slice none 0 0, .pointer (some ⟨gp, 0, none⟩), .bool df, .bool false, .bool false, .int .i64 1, .int .i64 (-1)] 154 (0, 0)) * (pts gm (.cells ((#[Value.slice A n c, .int .i64 fuel, .int .i64 (mk : Int), .int .i64 sh, .int .i64 (dep : Int), .int .i64 (deep : Int), .slice B1 t'.length b1, .slice B2 ow'.length b2, .slice B3 cl'.length b3, .slice B4 qs.length b4, .slice B5 rs.length b5, .map (some bn), .int .i64 0, .int .i64 0, .slice none 0 0, .int .i64 0].setIfInBounds 4 (.int .i64 ((dep : Int) + 1))).setIfInBounds 5 (.int .i64 (max (deep : Int) ((dep : Int) + 1)))) 98 (0, 0)) * (Row 75 3 (.slice B1 t'.length b1) t'.length (cEvs t') * (Row 3 1 (.slice B2 ow'.length b2) ow'.length (ints ow') * (Row 92 6 (.slice B3 cl'.length b3) cl'.length (cCis cl') * (Row 78 9 (.slice B4 qs.length b4) qs.length (cPvs qs) * (stars (qs.map unH) * (Row 90 3 (.slice B5 rs.length b5) rs.length (cRcs rs) * (MapH bn mk * (ParH (some (gp, up)) (some p) * (S))))))))))) inferInstance inferInstance) 191 2) (by unfold FrC MachC; simp only []; rw [HMX.out]; exact star_left _ _ _))) (by rw [HPAR.out]; rfl) (by have h := HST.out; rw [HSTM.out] at h; exact h) rfl (by have h := HDP.out; show dep + 1 + d = 8; omega) HMD.out).mono ?_
  intro e w5 hP
  have hr1 := HR1.out
  rw [HSTM.out] at hr1
  rw [HPAR.out, show bodyM (callM L fu d) L fu (fu + 1) (⟨mk, sh, (dep + 1), (max deep (dep + 1)), t', ow', cl', ps.map (·.p), rs⟩ : Ma) (⟨cl.length, fn, [arg, 0, 0, 0], [], df, false, false, 1, -1⟩ : Fr) (some p) 0 = R1 from hr1, ← HFU.out] at hP
  have HD0 : Hd (dep + 1 = st.length + 1) := ⟨by have h := HI.out.dep _ _ HST.out; rw [HSTM.out] at h; exact h⟩
  clear hr1 HR1 HSTM HSm HST HTM
  cases R1 with
  | spent m2 =>
    obtain ⟨rfl, HP⟩ := hP
    have HS6 := HP.sep
    have HE6 := HP.ext
    clear HP
    unfold spentE
    go_wp2
    exact ⟨rfl, rfl, Post.mk' (Ent.sep (S := _) (T := Mach gm A n c fuel m2 * S) inferInstance inferInstance) inferInstance⟩
  | ok m2 x =>
    obtain ⟨f2, par2⟩ := x
    obtain ⟨hb1, hb2, hb3, hb4⟩ := HBD.out
    have HB1 := Hd.mk hb1
    obtain ⟨rfl, HP⟩ := hP
    have HS6 := HP.sep
    have HE6 := HP.ext
    obtain ⟨R2, hR2⟩ : ∃ R2, runsM (callM L fu d) f2.runs.length m2 f2 = R2 := ⟨_, rfl⟩
    have hdp2 : m2.depth + d = 8 := by
      have h1 := HI.out.dep _ _ hb1
      have h2 := HDP.out
      have h3 := HD0.out
      have h4 := putHead_lenP (par := par2) (st := st) hb3
      simp only [List.length_cons] at h1
      omega
    have HR2 : Hd (bodyO (callM L fu d) (.ok m2 (f2, par2)) = runO par2 R2) := ⟨by rw [← hR2]; rfl⟩
    have HIR : Hd (InR P (callM L fu d) R2 (putHead par2 st) d f2.runs.length m2 f2) := ⟨⟨hb1, rfl, hdp2, hR2⟩⟩
    clear HP hb1 hb2 hb3 hb4 HBD hR2 hdp2
    go_wp2_with fail
    go_loopg [] (f2.runs.length) (fun gk wr => ∃ (m : Ma) (f : Fr), ExtI w wr ∧ Hd (InR P (callM L fu d) R2 (putHead par2 st) d gk m f) ∧ SepI wr (Mach gm A n c fuel m * (FrH w.heap.size (.pointer (some ⟨gp, 0, none⟩)) f * (ParH (some (gp, up)) par2 * S))))
    case atStart => exact ⟨m2, f2, inferInstance, HIR, HS6⟩
    case round =>
    clear HIR HS6
    obtain ⟨m, f, HX, HIR, HSR⟩ := hrel
    have hfo := HI.out.fr _ _ HIR.out.p f List.mem_cons_self
    have hsm := HI.out.small _ _ HIR.out.p
    have hdl := HI.out.dep _ _ HIR.out.p
    have HFO := Hd.mk hfo
    have HSM := Hd.mk hsm
    have HDL := Hd.mk hdl
    clear hfo hsm hdl
    obtain ⟨⟨r, A0, c0⟩, hr, H1⟩ := FM.open HSR
    obtain ⟨id, fn, rg, rn, df, ct, lv, en, pa⟩ := f
    simp only at hr
    subst hr
    unfold FrC at H1
    simp only at H1
    have hrn := HFO.out.2
    simp only at hrn
    by_cases hz : rn.length = 0
    · as_aux_lemma =>
        have HQ : Hd (R2 = .ok m (⟨id, fn, r.l, rn, df, ct, lv, en, pa⟩ : Fr)) := ⟨HIR.out.done hz⟩
        have hz0 : ¬ (0 : Int) < rn.length := by omega
        clear hz HSR
        go_wp2_with fail
        refine (@impl_finish (ParH (some (gp, up)) par2 * S) _ gm A n c fuel m w.heap.size (.pointer (some ⟨gp, 0, none⟩)) (⟨id, fn, r.l, rn, df, ct, lv, en, pa⟩ : Fr) (FM.shut ⟨r, A0, c0⟩ rfl (SepI.cast (Ent.sep (S := _) (T := pts w.heap.size (.cells #[Value.int .i64 (id : Int), .int .i64 fn, .int .i64 r.a, .int .i64 r.b, .int .i64 r.c, .int .i64 r.d, .slice A0 rn.length c0, .pointer (some ⟨gp, 0, none⟩), .bool df, .bool ct, .bool lv, .int .i64 en, .int .i64 pa] 154 (0, 0)) * (Row 191 2 (.slice A0 rn.length c0) rn.length (cPr rn) * (Mach gm A n c fuel m * (ParH (some (gp, up)) par2 * (S))))) inferInstance inferInstance) (by rfl))) HSM.out HFO.out.1.id HFO.out.1.en HFO.out.1.pa).mono ?_
        rintro e w6 ⟨rfl, HP⟩
        obtain ⟨M4, hM4⟩ : ∃ M4, finishM m (⟨id, fn, r.l, rn, df, ct, lv, en, pa⟩ : Fr) = M4 := ⟨_, rfl⟩
        have HM4 := Hd.mk hM4
        have hd4 : M4.depth = m.depth := by rw [← hM4, finishM_depth]
        have hd5 := HDL.out
        rw [hM4] at HP
        have HE6 := HP.ext
        obtain ⟨⟨B1, b1, B2, b2, B3, b3, B4, b4, B5, b5, bn, qs⟩, hqs, H7⟩ := Mach.open HP.sep
        clear HP hM4
        obtain ⟨mk4, sh4, dep4, deep4, t4, ow4, cl4, pn4, rs4⟩ := M4
        simp only at hqs hd4
        simp only [List.length_cons] at hd5
        subst hqs
        unfold MachC at H7
        simp only at H7
        have hdd := HSM.out.dp
        have hw4 : IntKind.i64.wrap ((dep4 : Int) - 1) = (dep4 : Int) - 1 := IntWalk.i64_in _ (by omega)
        have HD4 : Hd (((dep4 - 1 : Nat) : Int) = (dep4 : Int) - 1) := ⟨by omega⟩
        clear hd4 hd5 hdd
        go_wp2
        go_ret
        rw [HR2.out, HQ.out]
        refine ⟨w.heap.size, rfl, ?_⟩
        rw [HM4.out]
        refine Post.mk' (Mach.shut ⟨B1, b1, B2, b2, B3, b3, B4, b4, B5, b5, bn, qs⟩ rfl (SepI.cast (Ent.sep (S := _) (T := pts gm (.cells (#[Value.slice A n c, .int .i64 fuel, .int .i64 (mk4 : Int), .int .i64 sh4, .int .i64 (dep4 : Int), .int .i64 (deep4 : Int), .slice B1 t4.length b1, .slice B2 ow4.length b2, .slice B3 cl4.length b3, .slice B4 qs.length b4, .slice B5 rs4.length b5, .map (some bn), .int .i64 0, .int .i64 0, .slice none 0 0, .int .i64 0].setIfInBounds 4 (.int .i64 ((dep4 : Int) - 1))) 98 (0, 0)) * (Row 75 3 (.slice B1 t4.length b1) t4.length (cEvs t4) * (Row 3 1 (.slice B2 ow4.length b2) ow4.length (ints ow4) * (Row 92 6 (.slice B3 cl4.length b3) cl4.length (cCis cl4) * (Row 78 9 (.slice B4 qs.length b4) qs.length (cPvs qs) * (stars (qs.map unH) * (Row 90 3 (.slice B5 rs4.length b5) rs4.length (cRcs rs4) * (MapH bn mk4 * (FrH w.heap.size (.pointer (some ⟨gp, 0, none⟩)) (⟨id, fn, r.l, rn, df, ct, lv, en, pa⟩ : Fr) * (ParH (some (gp, up)) par2 * (S))))))))))) inferInstance inferInstance) (by unfold MachC; simp only []; rw [HD4.out]; rfl))) inferInstance
    · obtain ⟨k, hk⟩ : ∃ k, rn.length = k + 1 := ⟨rn.length - 1, by omega⟩
      obtain ⟨x, hx⟩ := get_ex (xs := rn) (k := k) (by omega)
      obtain ⟨ga, rfl⟩ := Row.addr (SepI.pickR H1 (inferInstance : PickR _ _ _ (.slice A0 rn.length c0) _ _ _)) (by omega)
      rw [hk] at H1 hrn
      have hxd : rn.getD k (0, 0) = x := by rw [List.getD_eq_getElem?_getD, hx]; rfl
      obtain ⟨rk, hrk⟩ : ∃ rk, rk = rn.take k := ⟨_, rfl⟩
      obtain ⟨o, ho⟩ : ∃ o, callM L fu d m x.1 x.2 (some (⟨id, fn, r.l, rk, df, ct, lv, en, pa⟩ : Fr)) true = o := ⟨_, rfl⟩
      have hrd := HIR.out.round HI.out.al HI.out.dep (along2_call HI.out.al d) (k := k) hk (o := o) (by simp only; rw [hxd, ← hrk]; exact ho)
      simp only at hrd
      rw [hxd, ← hrk] at hrd
      have HRD := Hd.mk hrd
      have HO := Hd.mk ho
      have HLK : Hd (k = rk.length) := ⟨by rw [hrk, List.length_take]; omega⟩
      have HCK : Hd ((cPr rn).take (k * 2) = cPr rk) := ⟨by rw [hrk, cPr_take]⟩
      have d1 : ∀ F, CellAt (Row 191 2 (.slice (some ⟨ga, 0, none⟩) (k + 1) c0) (k + 1) (cPr rn) * F) ga (k * 2) (.int .i64 x.1) := fun F => Row.cellAt (cPr_get hx).1
      have d2 : ∀ F, CellAt (Row 191 2 (.slice (some ⟨ga, 0, none⟩) (k + 1) c0) (k + 1) (cPr rn) * F) ga (k * 2 + 1) (.int .i64 x.2) := fun F => Row.cellAt (cPr_get hx).2
      have hwk : IntKind.i64.wrap (((k + 1 : Nat) : Int) - 1) = (k : Int) := by rw [show ((k + 1 : Nat) : Int) - 1 = (k : Int) from by omega]; exact IntWalk.i64_in _ (by omega)
      have hz0 : (0 : Int) < ((k + 1 : Nat) : Int) := by omega
      have hwk2 : IntKind.i64.wrap (k : Int) = (k : Int) := IntWalk.i64_in _ (by omega)
      have hkk : (k : Int) < (k : Int) + 1 := by omega
      have hkc : k ≤ c0 := by
        obtain ⟨A', c', e, h1, _⟩ := Row.form (SepI.pickR H1 (inferInstance : PickR _ _ _ (.slice (some ⟨ga, 0, none⟩) (k + 1) c0) _ _ _))
        injection e with _ _ e3
        omega
      have HRDP := Hd.mk HIR.out.dep
      clear hz hk hx hxd hrk ho hrd HSR HFO HSM HDL HIR
      go_wp2
      refine wp_region_W 13 14 (by kernel_rfl) (by kernel_rfl) (fun w' => w'.cell? ⟨w.heap.size, 6, none⟩ = some (.slice (some ⟨ga, 0, none⟩) (k + 1) c0) ∧ w'.cell? ⟨ga, k * 2, none⟩ = some (.int .i64 x.1) ∧ w'.cell? ⟨ga, k * 2 + 1, none⟩ = some (.int .i64 x.2)) ⟨cb, cell_at _ _ _ _ _, cell_at _ _ _ _ _⟩ (fun hHeld => ?_)
      refine tkp 0 hHeld ?_
      refine tkp 1 hHeld ?_
      refine tkp 2 hHeld ?_
      refine tkl 3 hHeld ?_
      refine tkp 4 hHeld ?_
      refine tkp 5 hHeld ?_
      refine tkp 6 hHeld ?_
      refine tkl 7 hHeld ?_
      refine tkp 8 hHeld ?_
      refine tkp 9 hHeld ?_
      refine tkp 10 hHeld ?_
      refine tkl 11 hHeld ?_
      refine wpAnyW_one false (i := 12) (by kernel_rfl) rfl (by kernel_rfl) (by rfl) (fun KK hKK => ?_)
      refine st_list rfl ?_
      go_wp2
      refine ⟨rfl, ?_⟩
      refine hKK.out _ _ (.inr ⟨cb, cell_at _ _ _ _ _, cell_at _ _ _ _ _⟩) (fun hHeld => ?_)
      clear hKK KK
      try simp only [Act.put, List.setIfInBounds_toArray, List.set_cons_zero, List.set_cons_succ]
      refine wpAnyW_done (by kernel_rfl) ?_
      go_wp2
      refine wp_region_W 12 15 (by kernel_rfl) (by kernel_rfl) (fun w' => w'.cell? ⟨w.heap.size, 6, none⟩ = some (.slice (some ⟨ga, 0, none⟩) (k + 1) c0)) (cb) (fun hHeld => ?_)
      refine tkp 0 hHeld ?_
      refine tkp 1 hHeld ?_
      refine tkp 2 hHeld ?_
      refine tkp 3 hHeld ?_
      refine tkl 4 hHeld ?_
      refine tkp 5 hHeld ?_
      refine tkp 6 hHeld ?_
      refine tkp 7 hHeld ?_
      refine tkl 8 hHeld ?_
      refine tkp 9 hHeld ?_
      refine tkp 10 hHeld ?_
      refine tkp 11 hHeld ?_
      refine wpAnyW_done (by kernel_rfl) ?_
      go_wp2_with fail
      refine (HCC.out (pts wr.heap.size (.cells #[.int .i64 x.1, .int .i64 x.2] 191 (0, 0)) * (ParH (some (gp, up)) par2 * S)) _ m ((⟨id, fn, r.l, rk, df, ct, lv, en, pa⟩ : Fr) :: putHead par2 st) x.1 x.2 (some (w.heap.size, pvOf (some (gp, up)))) true inferInstance inferInstance (by rw [← HFU.out]; exact FM.shut ⟨r, some ⟨ga, 0, none⟩, c0⟩ rfl (SepI.cast (Row.shrinkG (i := k) (Ent.sep (S := _) (T := Row 191 2 (.slice (some ⟨ga, 0, none⟩) (k + 1) c0) (k + 1) (cPr rn) * (pts w.heap.size (.cells (#[Value.int .i64 (id : Int), .int .i64 fn, .int .i64 r.a, .int .i64 r.b, .int .i64 r.c, .int .i64 r.d, .slice (some ⟨ga, 0, none⟩) (k + 1) c0, .pointer (some ⟨gp, 0, none⟩), .bool df, .bool ct, .bool lv, .int .i64 en, .int .i64 pa].setIfInBounds 6 (.slice (some ⟨ga, 0, none⟩) k c0)) 154 (0, 0)) * (Mach gm A n c fuel m * (pts wr.heap.size (.cells #[.int .i64 x.1, .int .i64 x.2] 191 (0, 0)) * (ParH (some (gp, up)) par2 * (S)))))) inferInstance inferInstance) (by omega)) (by unfold FrC; simp only []; rw [HCK.out, ← HLK.out]; exact star_left _ _ _))) rfl HRD.out.2.1 HRDP.out).mono ?_
      intro e w6 hP
      rw [show callM L fu d m x.1 x.2 ((⟨id, fn, r.l, rk, df, ct, lv, en, pa⟩ : Fr) :: putHead par2 st).head? true = o from HO.out, ← HFU.out] at hP
      clear HO d1 d2
      cases o with
      | spent m3 =>
        have HQ := Hd.mk (HRD.out.2.2.1 m3 rfl)
        obtain ⟨rfl, HP⟩ := hP
        have HS7 := HP.sep
        have HE7 := HP.ext
        clear HP
        unfold spentE
        go_wp2
        refine ⟨rfl, ?_⟩
        rw [HR2.out, HQ.out]
        exact ⟨rfl, Post.mk' (Ent.sep (S := _) (T := Mach gm A n c fuel m3 * S) inferInstance inferInstance) inferInstance⟩
      | ok m3 y =>
        obtain ⟨pf, dd⟩ := y
        obtain ⟨xr, rfl, hF, hIN⟩ := HRD.out.2.2.2 m3 pf dd rfl
        obtain ⟨gd, rfl, HP⟩ := hP
        have hdn := HI.out.done _ _ _ hF
        have HPA := Hd.mk hdn.1.pa
        have HFA := Hd.mk (hdn.2 _ List.mem_cons_self).pa
        have HIN := Hd.mk hIN
        have HKG := Hd.mk HRD.out.1
        have HS7 : SepI w6 (Mach gm A n c fuel m3 * (FrH gd (.pointer (some ⟨w.heap.size, 0, none⟩)) dd * (FrH w.heap.size (.pointer (some ⟨gp, 0, none⟩)) (⟨id, fn, xr, rk, df, ct, lv, en, pa⟩ : Fr) * (pts wr.heap.size (.cells #[.int .i64 x.1, .int .i64 x.2] 191 (0, 0)) * (ParH (some (gp, up)) par2 * S))))) := HP.sep
        have HE7 := HP.ext
        clear HP hF hIN hdn HRD
        go_wp2_with fail
        refine (@impl_behind (pts wr.heap.size (.cells #[.int .i64 x.1, .int .i64 x.2] 191 (0, 0)) * (ParH (some (gp, up)) par2 * S)) _ gm A n c fuel m3 w.heap.size (.pointer (some ⟨gp, 0, none⟩)) gd (.pointer (some ⟨w.heap.size, 0, none⟩)) (⟨id, fn, xr, rk, df, ct, lv, en, pa⟩ : Fr) dd (SepI.cast (S := _) inferInstance (by ac_rfl)) HFA.out HPA.out).mono ?_
        rintro e w7 ⟨rfl, HP⟩
        have HS8 := HP.sep
        have HE8 := HP.ext
        clear HP HS7
        go_wp2
        go_roundg k
        case measure => exact HKG.out
        case rel => exact ⟨_, _, inferInstance, HIN, Ent.sep (S := _) inferInstance inferInstance⟩
/-- A call at one depth more. -/
theorem impl_callS {L : List (List St)} {fu : Nat} {P Q : Ma → List Fr → Prop} {F : Ma → Fr → List Fr → Prop} (I : Inv L fu P Q F) (hL : ProgOk L) (hfu : fu ≤ 100000) {gm : Nat} {A : Option Addr} {n c : Nat} {bs : List Bd} (hbs : bs.map (·.l) = L) (hn : bs.length = n) {d : Nat} (HC : CallW L fu P Q gm A n c bs d) (hmade : ∀ m st, P m st → m.made ≤ fu) : CallW L fu P Q gm A n c bs (d + 1) := by
  intro S w m st fn arg loc df rdA bd H hloc hsp hdep
  cases loc with
  | none =>
    have hp : st.head? = none := by
      cases h : st.head? with
      | none => rfl
      | some p => rw [h] at hloc; cases hloc
    rw [hp] at H ⊢
    exact impl_callN I hL hfu hbs hn HC hmade S w m st fn arg df rdA bd H hp hsp hdep
  | some l =>
    obtain ⟨gp, up⟩ := l
    obtain ⟨p, hp⟩ : ∃ p, st.head? = some p := by
      cases h : st.head? with
      | none => rw [h] at hloc; cases hloc
      | some p => exact ⟨p, rfl⟩
    rw [hp] at H ⊢
    exact impl_callP I hL hfu hbs hn HC hmade S w m st fn arg gp up p df rdA bd H hp hsp hdep
theorem impl_call {L : List (List St)} {fu : Nat} {P Q : Ma → List Fr → Prop} {F : Ma → Fr → List Fr → Prop} (I : Inv L fu P Q F) (hL : ProgOk L) (hfu : fu ≤ 100000) {gm : Nat} {A : Option Addr} {n c : Nat} {bs : List Bd} (hbs : bs.map (·.l) = L) (hn : bs.length = n) (hmade : ∀ m st, P m st → m.made ≤ fu) : ∀ d, CallW L fu P Q gm A n c bs d
  | 0 => impl_call0 L fu P Q gm A n c bs
  | d + 1 => impl_callS I hL hfu hbs hn (impl_call I hL hfu hbs hn hmade d) hmade
end Go.Proofs.Ytobikkdnalnllaa
