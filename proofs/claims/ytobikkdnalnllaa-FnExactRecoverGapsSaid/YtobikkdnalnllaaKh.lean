/- The program's machine: what a deferred call that has ended makes of the one that ran it. Conditions: lengths within bounds. -/
import Derived.Test.YtobikkdnalnllaaQd
namespace Go.Proofs.Ytobikkdnalnllaa
open Go.RowKit SL
attribute [local go_sem] cell_blk frozen_blk lt_blk cell_at frozen_row lt_row
set_option linter.unusedVariables false
set_option linter.unusedSimpArgs false

set_option maxRecDepth 100000 in
set_option maxHeartbeats 8000000 in
theorem impl_behind (S : HP) (w : World) (gm : Nat) (A : Option Addr) (n c : Nat) (fuel : Int) (m : Ma) (gf : Nat) (pv : Value) (gp : Nat) (up : Value) (f p : Fr) [H : SepI w (Mach gm A n c fuel m * (FrH gf pv f * (FrH gp up p * S)))] (hfa : f.en = 2 → 0 ≤ f.pa ∧ f.pa.toNat < m.panics.length) (hpa : p.en = 2 → 0 ≤ p.pa ∧ p.pa.toNat < m.panics.length) :
    Calls Try.prog 150 #[.pointer (some ⟨gm, 0, none⟩), .pointer (some ⟨gf, 0, none⟩), .pointer (some ⟨gp, 0, none⟩)] w (DoneF (FrH gp up p * S) gm gf A n c fuel pv (behindM m f p).1 (behindM m f p).2 w) := by
  obtain ⟨⟨A1, c1, A2, c2, A3, c3, A4, c4, A5, c5, bm, ps⟩, ⟨r, A0, c0⟩, ⟨rp, A9, c9⟩, hps, hr, hrp, H1⟩ := MFP.open H
  obtain ⟨mk, sh, dep, deep, t, ow, cl, pn, rs⟩ := m
  obtain ⟨id, fn, rg, rn, df, ct, lv, en, pa⟩ := f
  obtain ⟨idp, fnp, rgp, rnp, dfp, ctp, lvp, enp, pap⟩ := p
  simp only at hps hr hrp
  subst hps hr hrp
  unfold FrC MachC at H1
  simp only at H1
  clear H
  simp only at hfa hpa
  have HFA := Hd.mk hfa
  have HPAN := Hd.mk hpa
  clear hfa hpa
  obtain ⟨lvv, HLV⟩ : ∃ b, Hd (b = (lv || lvp)) := ⟨_, ⟨rfl⟩⟩
  obtain ⟨on, HON⟩ : ∃ b, Hd (b = (en == 2 && !ctp)) := ⟨_, ⟨rfl⟩⟩
  obtain ⟨R, hR⟩ : ∃ R, behindM (⟨mk, sh, dep, deep, t, ow, cl, ps.map (·.p), rs⟩ : Ma) (⟨id, fn, r.l, rn, df, ct, lv, en, pa⟩ : Fr) (⟨idp, fnp, rp.l, rnp, dfp, ctp, lvp, enp, pap⟩ : Fr) = R := ⟨_, rfl⟩
  have HR := Hd.mk hR
  rw [hR]
  clear hR
  go_enter Try.func150, Try.ntmps150
  go_upto_region 0 with fail
  go_cut [] (fun wx => ExtI w wx ∧ SepI wx (pts gf (.cells #[Value.int .i64 (id : Int), .int .i64 fn, .int .i64 r.a, .int .i64 r.b, .int .i64 r.c, .int .i64 r.d, .slice A0 rn.length c0, pv, .bool df, .bool ct, .bool lvv, .int .i64 en, .int .i64 pa] 154 (0, 0)) * (Row 191 2 (.slice A0 rn.length c0) rn.length (cPr rn) * (pts gp (.cells #[Value.int .i64 (idp : Int), .int .i64 fnp, .int .i64 rp.a, .int .i64 rp.b, .int .i64 rp.c, .int .i64 rp.d, .slice A9 rnp.length c9, up, .bool dfp, .bool ctp, .bool lvp, .int .i64 enp, .int .i64 pap] 154 (0, 0)) * (Row 191 2 (.slice A9 rnp.length c9) rnp.length (cPr rnp) * (pts gm (.cells #[Value.slice A n c, .int .i64 fuel, .int .i64 (mk : Int), .int .i64 sh, .int .i64 (dep : Int), .int .i64 (deep : Int), .slice A1 t.length c1, .slice A2 ow.length c2, .slice A3 cl.length c3, .slice A4 ps.length c4, .slice A5 rs.length c5, .map (some bm), .int .i64 0, .int .i64 0, .slice none 0 0, .int .i64 0] 98 (0, 0)) * (Row 75 3 (.slice A1 t.length c1) t.length (cEvs t) * (Row 3 1 (.slice A2 ow.length c2) ow.length (ints ow) * (Row 92 6 (.slice A3 cl.length c3) cl.length (cCis cl) * (Row 78 9 (.slice A4 ps.length c4) ps.length (cPvs ps) * (stars (ps.map unH) * (Row 90 3 (.slice A5 rs.length c5) rs.length (cRcs rs) * (MapH bm mk * (S))))))))))))))
  case first =>
    cases lv
    · obtain rfl : lvv = lvp := by rw [HLV.out]; rfl
      go_wp2
      go_meet
      exact ⟨inferInstance, SepI.cast (S := _) inferInstance (by rfl)⟩
    · obtain rfl : lvv = true := by rw [HLV.out]; rfl
      go_wp2
      go_meet
      exact ⟨inferInstance, SepI.cast (S := _) inferInstance (by rfl)⟩
  case rest =>
  obtain ⟨HEc, HSc⟩ := hcut
  go_upto_region 1 with fail
  go_cut [6] (fun v6 wx => v6 = .bool on ∧ ExtI w wx ∧ SepI wx (pts gf (.cells #[Value.int .i64 (id : Int), .int .i64 fn, .int .i64 r.a, .int .i64 r.b, .int .i64 r.c, .int .i64 r.d, .slice A0 rn.length c0, pv, .bool df, .bool ct, .bool lvv, .int .i64 en, .int .i64 pa] 154 (0, 0)) * (Row 191 2 (.slice A0 rn.length c0) rn.length (cPr rn) * (pts gp (.cells #[Value.int .i64 (idp : Int), .int .i64 fnp, .int .i64 rp.a, .int .i64 rp.b, .int .i64 rp.c, .int .i64 rp.d, .slice A9 rnp.length c9, up, .bool dfp, .bool ctp, .bool lvp, .int .i64 enp, .int .i64 pap] 154 (0, 0)) * (Row 191 2 (.slice A9 rnp.length c9) rnp.length (cPr rnp) * (pts gm (.cells #[Value.slice A n c, .int .i64 fuel, .int .i64 (mk : Int), .int .i64 sh, .int .i64 (dep : Int), .int .i64 (deep : Int), .slice A1 t.length c1, .slice A2 ow.length c2, .slice A3 cl.length c3, .slice A4 ps.length c4, .slice A5 rs.length c5, .map (some bm), .int .i64 0, .int .i64 0, .slice none 0 0, .int .i64 0] 98 (0, 0)) * (Row 75 3 (.slice A1 t.length c1) t.length (cEvs t) * (Row 3 1 (.slice A2 ow.length c2) ow.length (ints ow) * (Row 92 6 (.slice A3 cl.length c3) cl.length (cCis cl) * (Row 78 9 (.slice A4 ps.length c4) ps.length (cPvs ps) * (stars (ps.map unH) * (Row 90 3 (.slice A5 rs.length c5) rs.length (cRcs rs) * (MapH bm mk * (S))))))))))))))
  case first =>
    by_cases he : en = 2
    · subst he
      obtain rfl : on = !ctp := by rw [HON.out]; rfl
      have hnot : ∀ (x : Bool) (w : World), (Op.unary .not (.bool x)).run Try.prog w = .ok (.bool (!x)) w := fun _ _ => rfl
      go_wp2
      go_meet
      exact ⟨rfl, inferInstance, inferInstance⟩
    · have he2 : (en == 2) = false := beq_eq_false_iff_ne.2 he
      obtain rfl : on = false := by rw [HON.out, he2]; rfl
      clear he
      go_wp2
      go_meet
      exact ⟨rfl, inferInstance, inferInstance⟩
  case rest =>
  obtain ⟨rfl, HEd, HSd⟩ := hcut
  clear HEc HSc H1
  by_cases h2 : enp = 2
  · subst h2
    cases on
    · as_aux_lemma =>
      have HQ : Hd (R = ((⟨mk, sh, dep, deep, t, ow, cl, ps.map (·.p), rs⟩ : Ma), (⟨id, fn, r.l, rn, df, ct, lvv, 2, pap⟩ : Fr))) := ⟨by rw [← HR.out]; (unfold behindM; simp only [← HON.out, ← HLV.out]; rfl)⟩
      go_wp2
      go_end0
      rw [HQ.out]
      refine ⟨rfl, Post.mk' (MFP.shut ⟨A1, c1, A2, c2, A3, c3, A4, c4, A5, c5, bm, ps⟩ ⟨r, A0, c0⟩ ⟨rp, A9, c9⟩ rfl rfl rfl (SepI.cast (Ent.sep (S := _) (T := pts gf (.cells ((#[Value.int .i64 (id : Int), .int .i64 fn, .int .i64 r.a, .int .i64 r.b, .int .i64 r.c, .int .i64 r.d, .slice A0 rn.length c0, pv, .bool df, .bool ct, .bool lvv, .int .i64 en, .int .i64 pa].setIfInBounds 11 (.int .i64 2)).setIfInBounds 12 (.int .i64 pap)) 154 (0, 0)) * (Row 191 2 (.slice A0 rn.length c0) rn.length (cPr rn) * (pts gp (.cells #[Value.int .i64 (idp : Int), .int .i64 fnp, .int .i64 rp.a, .int .i64 rp.b, .int .i64 rp.c, .int .i64 rp.d, .slice A9 rnp.length c9, up, .bool dfp, .bool ctp, .bool lvp, .int .i64 2, .int .i64 pap] 154 (0, 0)) * (Row 191 2 (.slice A9 rnp.length c9) rnp.length (cPr rnp) * (pts gm (.cells #[Value.slice A n c, .int .i64 fuel, .int .i64 (mk : Int), .int .i64 sh, .int .i64 (dep : Int), .int .i64 (deep : Int), .slice A1 t.length c1, .slice A2 ow.length c2, .slice A3 cl.length c3, .slice A4 ps.length c4, .slice A5 rs.length c5, .map (some bm), .int .i64 0, .int .i64 0, .slice none 0 0, .int .i64 0] 98 (0, 0)) * (Row 75 3 (.slice A1 t.length c1) t.length (cEvs t) * (Row 3 1 (.slice A2 ow.length c2) ow.length (ints ow) * (Row 92 6 (.slice A3 cl.length c3) cl.length (cCis cl) * (Row 78 9 (.slice A4 ps.length c4) ps.length (cPvs ps) * (stars (ps.map unH) * (Row 90 3 (.slice A5 rs.length c5) rs.length (cRcs rs) * (MapH bm mk * (S))))))))))))) inferInstance inferInstance) (by rfl))) inferInstance⟩
    · as_aux_lemma =>
      obtain ⟨hen, hct⟩ : en = 2 ∧ ctp = false := by have h := HON.out; simp at h; exact h
      subst hen hct
      have hfa := HFA.out rfl
      have hpa := HPAN.out rfl
      clear HFA HPAN
      obtain ⟨k1, rfl⟩ : ∃ k : Nat, pa = k := ⟨pa.toNat, by omega⟩
      obtain ⟨k2, rfl⟩ : ∃ k : Nat, pap = k := ⟨pap.toNat, by omega⟩
      rw [Int.toNat_natCast, List.length_map] at hfa hpa
      obtain ⟨g4, rfl⟩ := Row.addr (SepI.pickR HSd (inferInstance : PickR _ _ _ (.slice A4 ps.length c4) _ _ _)) (by omega)
      obtain ⟨np, hnp⟩ : ∃ np, np = ps.length := ⟨_, rfl⟩
      rw [← hnp] at HSd hfa hpa
      have hk1 : (k1 : Int) < np := by omega
      have hk2 : (k2 : Int) < np := by omega
      obtain ⟨x, hx⟩ := pn_get (ps := ps) (k := k1) (by omega)
      obtain ⟨⟨ca, fx, va, de, fa, by_, la, ag, un⟩, u⟩ := x
      obtain ⟨ps1, HP1⟩ : ∃ q : List Pv, Hd (q = ps.set k1 ⟨⟨ca, fx, va, de, 2, k2, la, ag, un⟩, u⟩) := ⟨_, ⟨rfl⟩⟩
      have hl1 : ps1.length = np := by rw [HP1.out, List.length_set]; exact hnp.symm
      obtain ⟨y, hy⟩ := pn_get (ps := ps1) (k := k2) (by omega)
      obtain ⟨⟨ca2, fx2, va2, de2, fa2, by2, la2, ag2, un2⟩, u2⟩ := y
      obtain ⟨ps2, HP2⟩ : ∃ q : List Pv, Hd (q = ps1.set k2 ⟨⟨ca2, fx2, va2, de2, fa2, by2, k1, ag2, un2⟩, u2⟩) := ⟨_, ⟨rfl⟩⟩
      have HLN : Hd (np = ps2.length) := ⟨by rw [HP2.out, List.length_set, hl1]⟩
      have HUN : Hd (ps2.map unH = ps.map unH) := ⟨(show ps2.map unH = ps1.map unH by rw [HP2.out]; exact un_set hy rfl).trans (show ps1.map unH = ps.map unH by rw [HP1.out]; exact un_set hx rfl)⟩
      have HC1 : Hd (((cPvs ps).set (k1 * 9 + 4) (.int .i64 2)).set (k1 * 9 + 5) (.int .i64 (k2 : Int)) = cPvs ps1) := ⟨by
        rw [cPvs_set (y := ⟨⟨ca, fx, va, de, 2, by_, la, ag, un⟩, u⟩) hx (by omega) rfl, cPvs_set (x := ⟨⟨ca, fx, va, de, 2, by_, la, ag, un⟩, u⟩) (y := ⟨⟨ca, fx, va, de, 2, k2, la, ag, un⟩, u⟩) (List.getElem?_set_self (by omega)) (by omega) rfl, List.set_set, HP1.out]⟩
      have HC2 : Hd ((((cPvs ps).set (k1 * 9 + 4) (.int .i64 2)).set (k1 * 9 + 5) (.int .i64 (k2 : Int))).set (k2 * 9 + 6) (.int .i64 (k1 : Int)) = cPvs ps2) := ⟨by rw [HC1.out, HP2.out]; exact cPvs_set hy (by omega) rfl⟩
      have HM1 : Hd (pnSet (⟨mk, sh, dep, deep, t, ow, cl, ps.map (·.p), rs⟩ : Ma) (k1 : Int) (fun x => { x with fa := 2, by_ := (k2 : Int) }) = (⟨mk, sh, dep, deep, t, ow, cl, ps1.map (·.p), rs⟩ : Ma)) := ⟨by rw [HP1.out]; exact pn_set rfl (Int.toNat_natCast k1) hx _⟩
      have HM2 : Hd (pnSet (⟨mk, sh, dep, deep, t, ow, cl, ps1.map (·.p), rs⟩ : Ma) (k2 : Int) (fun x => { x with la := (k1 : Int) }) = (⟨mk, sh, dep, deep, t, ow, cl, ps2.map (·.p), rs⟩ : Ma)) := ⟨by rw [HP2.out]; exact pn_set rfl (Int.toNat_natCast k2) hy _⟩
      have d1 : ∀ F, CellAt (Row 78 9 (.slice (some ⟨g4, 0, none⟩) np c4) np (cPvs ps) * F) g4 (k1 * 9 + 4) (.int .i64 fa) := fun F => Row.cellAt (by rw [cPvs_get hx (by omega)]; rfl)
      have d2 : ∀ F, CellAt (Row 78 9 (.slice (some ⟨g4, 0, none⟩) np c4) np ((cPvs ps).set (k1 * 9 + 4) (.int .i64 2)) * F) g4 (k1 * 9 + 5) (.int .i64 by_) := fun F => Row.cellAt (by rw [List.getElem?_set_ne (by omega), cPvs_get hx (by omega)]; rfl)
      have d3 : ∀ F, CellAt (Row 78 9 (.slice (some ⟨g4, 0, none⟩) np c4) np (((cPvs ps).set (k1 * 9 + 4) (.int .i64 2)).set (k1 * 9 + 5) (.int .i64 (k2 : Int))) * F) g4 (k2 * 9 + 6) (.int .i64 la2) := fun F => Row.cellAt (by rw [HC1.out, cPvs_get hy (by omega)]; rfl)
      have HQ : Hd (R = ((⟨mk, sh, dep, deep, t, ow, cl, ps2.map (·.p), rs⟩ : Ma), (⟨id, fn, r.l, rn, df, ct, lvv, 2, (k2 : Int)⟩ : Fr))) := ⟨by
        rw [← HR.out]
        unfold behindM
        simp only [← HLV.out]
        show (pnSet (pnSet (⟨mk, sh, dep, deep, t, ow, cl, ps.map (·.p), rs⟩ : Ma) (k1 : Int) (fun x => { x with fa := 2, by_ := (k2 : Int) })) (k2 : Int) (fun x => { x with la := (k1 : Int) }), _) = _
        rw [HM1.out, HM2.out]⟩
      clear HP1 HP2 hx hy hnp hl1 HM1 HM2 HON HR HLV hfa hpa
      go_wp2
      refine wp_region_W 20 26 (by kernel_rfl) (by kernel_rfl) (fun w' => w'.cell? ⟨gm, 9, none⟩ = some (.slice (some ⟨g4, 0, none⟩) np c4) ∧ w'.cell? ⟨gf, 12, none⟩ = some (.int .i64 (k1 : Int)) ∧ w'.cell? ⟨gp, 12, none⟩ = some (.int .i64 (k2 : Int))) ⟨cb, cb, cb⟩ (fun hHeld => ?_)
      refine tkp 0 hHeld ?_
      refine tkp 1 hHeld ?_
      refine tkp 2 hHeld ?_
      refine tkl 3 hHeld ?_
      refine tkp 4 hHeld ?_
      refine tkp 5 hHeld ?_
      refine tkp 6 hHeld ?_
      refine tkl 7 hHeld ?_
      refine tkp 8 hHeld ?_
      refine tkp 9 hHeld ?_
      refine tkp 10 hHeld ?_
      refine tkl 11 hHeld ?_
      refine tkp 12 hHeld ?_
      refine tkp 13 hHeld ?_
      refine tkp 14 hHeld ?_
      refine tkl 15 hHeld ?_
      refine tkp 16 hHeld ?_
      refine tkp 17 hHeld ?_
      refine tkp 18 hHeld ?_
      refine tkl 19 hHeld ?_
      refine wpAnyW_done (by kernel_rfl) ?_
      go_wp2
      refine wp_region_W 12 15 (by kernel_rfl) (by kernel_rfl) (fun w' => w'.cell? ⟨gm, 9, none⟩ = some (.slice (some ⟨g4, 0, none⟩) np c4) ∧ w'.cell? ⟨gf, 12, none⟩ = some (.int .i64 (k1 : Int)) ∧ w'.cell? ⟨gp, 12, none⟩ = some (.int .i64 (k2 : Int))) ⟨cb, cb, cb⟩ (fun hHeld => ?_)
      refine tkp 0 hHeld ?_
      refine tkp 1 hHeld ?_
      refine tkp 2 hHeld ?_
      refine tkl 3 hHeld ?_
      refine tkp 4 hHeld ?_
      refine tkp 5 hHeld ?_
      refine tkp 6 hHeld ?_
      refine tkl 7 hHeld ?_
      refine tkp 8 hHeld ?_
      refine tkp 9 hHeld ?_
      refine tkp 10 hHeld ?_
      refine tkl 11 hHeld ?_
      refine wpAnyW_done (by kernel_rfl) ?_
      go_wp2
      go_end0
      rw [HQ.out]
      refine ⟨rfl, Post.mk' (MFP.shut ⟨A1, c1, A2, c2, A3, c3, some ⟨g4, 0, none⟩, c4, A5, c5, bm, ps2⟩ ⟨r, A0, c0⟩ ⟨rp, A9, c9⟩ rfl rfl rfl (SepI.cast (Ent.sep (S := _) (T := pts gf (.cells ((#[Value.int .i64 (id : Int), .int .i64 fn, .int .i64 r.a, .int .i64 r.b, .int .i64 r.c, .int .i64 r.d, .slice A0 rn.length c0, pv, .bool df, .bool ct, .bool lvv, .int .i64 2, .int .i64 (k1 : Int)].setIfInBounds 11 (.int .i64 2)).setIfInBounds 12 (.int .i64 (k2 : Int))) 154 (0, 0)) * (Row 191 2 (.slice A0 rn.length c0) rn.length (cPr rn) * (pts gp (.cells #[Value.int .i64 (idp : Int), .int .i64 fnp, .int .i64 rp.a, .int .i64 rp.b, .int .i64 rp.c, .int .i64 rp.d, .slice A9 rnp.length c9, up, .bool dfp, .bool false, .bool lvp, .int .i64 2, .int .i64 (k2 : Int)] 154 (0, 0)) * (Row 191 2 (.slice A9 rnp.length c9) rnp.length (cPr rnp) * (pts gm (.cells #[Value.slice A n c, .int .i64 fuel, .int .i64 (mk : Int), .int .i64 sh, .int .i64 (dep : Int), .int .i64 (deep : Int), .slice A1 t.length c1, .slice A2 ow.length c2, .slice A3 cl.length c3, .slice (some ⟨g4, 0, none⟩) np c4, .slice A5 rs.length c5, .map (some bm), .int .i64 0, .int .i64 0, .slice none 0 0, .int .i64 0] 98 (0, 0)) * (Row 75 3 (.slice A1 t.length c1) t.length (cEvs t) * (Row 3 1 (.slice A2 ow.length c2) ow.length (ints ow) * (Row 92 6 (.slice A3 cl.length c3) cl.length (cCis cl) * (Row 78 9 (.slice (some ⟨g4, 0, none⟩) np c4) np ((((cPvs ps).set (k1 * 9 + 4) (.int .i64 2)).set (k1 * 9 + 5) (.int .i64 (k2 : Int))).set (k2 * 9 + 6) (.int .i64 (k1 : Int))) * (stars (ps.map unH) * (Row 90 3 (.slice A5 rs.length c5) rs.length (cRcs rs) * (MapH bm mk * (S))))))))))))) inferInstance inferInstance) (by unfold FrC MachC; simp only []; rw [HC2.out, HUN.out, ← HLN.out]; rfl))) inferInstance⟩
  have h2' : (enp == 2) = false := beq_eq_false_iff_ne.2 h2
  by_cases h3 : enp = 3
  · subst h3
    clear h2
    cases on
    · as_aux_lemma =>
      have HQ : Hd (R = ((⟨mk, sh, dep, deep, t, ow, cl, ps.map (·.p), rs⟩ : Ma), (⟨id, fn, r.l, rn, df, ct, lvv, 3, pa⟩ : Fr))) := ⟨by rw [← HR.out]; (unfold behindM; simp only [← HON.out, ← HLV.out]; rfl)⟩
      go_wp2
      go_end0
      rw [HQ.out]
      refine ⟨rfl, Post.mk' (MFP.shut ⟨A1, c1, A2, c2, A3, c3, A4, c4, A5, c5, bm, ps⟩ ⟨r, A0, c0⟩ ⟨rp, A9, c9⟩ rfl rfl rfl (SepI.cast (Ent.sep (S := _) (T := pts gf (.cells (#[Value.int .i64 (id : Int), .int .i64 fn, .int .i64 r.a, .int .i64 r.b, .int .i64 r.c, .int .i64 r.d, .slice A0 rn.length c0, pv, .bool df, .bool ct, .bool lvv, .int .i64 en, .int .i64 pa].setIfInBounds 11 (.int .i64 3)) 154 (0, 0)) * (Row 191 2 (.slice A0 rn.length c0) rn.length (cPr rn) * (pts gp (.cells #[Value.int .i64 (idp : Int), .int .i64 fnp, .int .i64 rp.a, .int .i64 rp.b, .int .i64 rp.c, .int .i64 rp.d, .slice A9 rnp.length c9, up, .bool dfp, .bool ctp, .bool lvp, .int .i64 3, .int .i64 pap] 154 (0, 0)) * (Row 191 2 (.slice A9 rnp.length c9) rnp.length (cPr rnp) * (pts gm (.cells #[Value.slice A n c, .int .i64 fuel, .int .i64 (mk : Int), .int .i64 sh, .int .i64 (dep : Int), .int .i64 (deep : Int), .slice A1 t.length c1, .slice A2 ow.length c2, .slice A3 cl.length c3, .slice A4 ps.length c4, .slice A5 rs.length c5, .map (some bm), .int .i64 0, .int .i64 0, .slice none 0 0, .int .i64 0] 98 (0, 0)) * (Row 75 3 (.slice A1 t.length c1) t.length (cEvs t) * (Row 3 1 (.slice A2 ow.length c2) ow.length (ints ow) * (Row 92 6 (.slice A3 cl.length c3) cl.length (cCis cl) * (Row 78 9 (.slice A4 ps.length c4) ps.length (cPvs ps) * (stars (ps.map unH) * (Row 90 3 (.slice A5 rs.length c5) rs.length (cRcs rs) * (MapH bm mk * (S))))))))))))) inferInstance inferInstance) (by rfl))) inferInstance⟩
    · as_aux_lemma =>
      obtain ⟨hen, hct⟩ : en = 2 ∧ ctp = false := by have h := HON.out; simp at h; exact h
      subst hen hct
      have hfa := HFA.out rfl
      clear HFA HPAN
      obtain ⟨k1, rfl⟩ : ∃ k : Nat, pa = k := ⟨pa.toNat, by omega⟩
      rw [Int.toNat_natCast, List.length_map] at hfa
      obtain ⟨g4, rfl⟩ := Row.addr (SepI.pickR HSd (inferInstance : PickR _ _ _ (.slice A4 ps.length c4) _ _ _)) (by omega)
      obtain ⟨np, hnp⟩ : ∃ np, np = ps.length := ⟨_, rfl⟩
      rw [← hnp] at HSd hfa
      have hk1 : (k1 : Int) < np := by omega
      obtain ⟨x, hx⟩ := pn_get (ps := ps) (k := k1) (by omega)
      obtain ⟨⟨ca, fx, va, de, fa, by_, la, ag, un⟩, u⟩ := x
      obtain ⟨ps1, HP1⟩ : ∃ q : List Pv, Hd (q = ps.set k1 ⟨⟨ca, fx, va, de, 4, by_, la, ag, un⟩, u⟩) := ⟨_, ⟨rfl⟩⟩
      have HLN : Hd (np = ps1.length) := ⟨by rw [HP1.out, List.length_set]; exact hnp⟩
      have HUN : Hd (ps1.map unH = ps.map unH) := ⟨by rw [HP1.out]; exact un_set hx rfl⟩
      have HC2 : Hd ((cPvs ps).set (k1 * 9 + 4) (.int .i64 4) = cPvs ps1) := ⟨by rw [HP1.out]; exact cPvs_set hx (by omega) rfl⟩
      have HM1 : Hd (pnSet (⟨mk, sh, dep, deep, t, ow, cl, ps.map (·.p), rs⟩ : Ma) (k1 : Int) (fun x => { x with fa := 4 }) = (⟨mk, sh, dep, deep, t, ow, cl, ps1.map (·.p), rs⟩ : Ma)) := ⟨by rw [HP1.out]; exact pn_set rfl (Int.toNat_natCast k1) hx _⟩
      have d1 : ∀ F, CellAt (Row 78 9 (.slice (some ⟨g4, 0, none⟩) np c4) np (cPvs ps) * F) g4 (k1 * 9 + 4) (.int .i64 fa) := fun F => Row.cellAt (by rw [cPvs_get hx (by omega)]; rfl)
      have HQ : Hd (R = ((⟨mk, sh, dep, deep, t, ow, cl, ps1.map (·.p), rs⟩ : Ma), (⟨id, fn, r.l, rn, df, ct, lvv, 3, (k1 : Int)⟩ : Fr))) := ⟨by
        rw [← HR.out]
        unfold behindM
        simp only [← HLV.out]
        show (pnSet (⟨mk, sh, dep, deep, t, ow, cl, ps.map (·.p), rs⟩ : Ma) (k1 : Int) (fun x => { x with fa := 4 }), _) = _
        rw [HM1.out]⟩
      clear HP1 hx hnp HM1 HON HR HLV hfa
      go_wp2
      refine wp_region_W 8 11 (by kernel_rfl) (by kernel_rfl) (fun w' => w'.cell? ⟨gm, 9, none⟩ = some (.slice (some ⟨g4, 0, none⟩) np c4) ∧ w'.cell? ⟨gf, 12, none⟩ = some (.int .i64 (k1 : Int))) ⟨cb, cb⟩ (fun hHeld => ?_)
      refine tkp 0 hHeld ?_
      refine tkp 1 hHeld ?_
      refine tkp 2 hHeld ?_
      refine tkl 3 hHeld ?_
      refine tkp 4 hHeld ?_
      refine tkp 5 hHeld ?_
      refine tkp 6 hHeld ?_
      refine tkl 7 hHeld ?_
      refine wpAnyW_done (by kernel_rfl) ?_
      go_wp2
      go_end0
      rw [HQ.out]
      refine ⟨rfl, Post.mk' (MFP.shut ⟨A1, c1, A2, c2, A3, c3, some ⟨g4, 0, none⟩, c4, A5, c5, bm, ps1⟩ ⟨r, A0, c0⟩ ⟨rp, A9, c9⟩ rfl rfl rfl (SepI.cast (Ent.sep (S := _) (T := pts gf (.cells (#[Value.int .i64 (id : Int), .int .i64 fn, .int .i64 r.a, .int .i64 r.b, .int .i64 r.c, .int .i64 r.d, .slice A0 rn.length c0, pv, .bool df, .bool ct, .bool lvv, .int .i64 2, .int .i64 (k1 : Int)].setIfInBounds 11 (.int .i64 3)) 154 (0, 0)) * (Row 191 2 (.slice A0 rn.length c0) rn.length (cPr rn) * (pts gp (.cells #[Value.int .i64 (idp : Int), .int .i64 fnp, .int .i64 rp.a, .int .i64 rp.b, .int .i64 rp.c, .int .i64 rp.d, .slice A9 rnp.length c9, up, .bool dfp, .bool false, .bool lvp, .int .i64 3, .int .i64 pap] 154 (0, 0)) * (Row 191 2 (.slice A9 rnp.length c9) rnp.length (cPr rnp) * (pts gm (.cells #[Value.slice A n c, .int .i64 fuel, .int .i64 (mk : Int), .int .i64 sh, .int .i64 (dep : Int), .int .i64 (deep : Int), .slice A1 t.length c1, .slice A2 ow.length c2, .slice A3 cl.length c3, .slice (some ⟨g4, 0, none⟩) np c4, .slice A5 rs.length c5, .map (some bm), .int .i64 0, .int .i64 0, .slice none 0 0, .int .i64 0] 98 (0, 0)) * (Row 75 3 (.slice A1 t.length c1) t.length (cEvs t) * (Row 3 1 (.slice A2 ow.length c2) ow.length (ints ow) * (Row 92 6 (.slice A3 cl.length c3) cl.length (cCis cl) * (Row 78 9 (.slice (some ⟨g4, 0, none⟩) np c4) np ((cPvs ps).set (k1 * 9 + 4) (.int .i64 4)) * (stars (ps.map unH) * (Row 90 3 (.slice A5 rs.length c5) rs.length (cRcs rs) * (MapH bm mk * (S))))))))))))) inferInstance inferInstance) (by unfold FrC MachC; simp only []; rw [HC2.out, HUN.out, ← HLN.out]; rfl))) inferInstance⟩
  have h3' : (enp == 3) = false := beq_eq_false_iff_ne.2 h3
  have HR2 : Hd (R = if (ctp && lvv) = true then ((⟨mk, sh, dep, deep, t, ow, cl, ps.map (·.p), rs⟩ : Ma), (⟨id, fn, r.l, rn, df, ct, lvv, 3, pa⟩ : Fr)) else if ctp = true then ((⟨mk, sh, dep, deep, t, ow, cl, ps.map (·.p), rs⟩ : Ma), (⟨id, fn, r.l, rn, df, ct, lvv, 1, pa⟩ : Fr)) else ((⟨mk, sh, dep, deep, t, ow, cl, ps.map (·.p), rs⟩ : Ma), (⟨id, fn, r.l, rn, df, ct, lvv, en, pa⟩ : Fr))) := ⟨by rw [← HR.out]; unfold behindM; simp only [← HLV.out]; rw [if_neg h2, if_neg h3]⟩
  clear HR h2 h3
  cases ctp
  · as_aux_lemma =>
      have HQ : Hd (R = ((⟨mk, sh, dep, deep, t, ow, cl, ps.map (·.p), rs⟩ : Ma), (⟨id, fn, r.l, rn, df, ct, lvv, en, pa⟩ : Fr))) := ⟨HR2.out⟩
      go_wp2
      go_end0
      rw [HQ.out]
      refine ⟨rfl, Post.mk' (MFP.shut ⟨A1, c1, A2, c2, A3, c3, A4, c4, A5, c5, bm, ps⟩ ⟨r, A0, c0⟩ ⟨rp, A9, c9⟩ rfl rfl rfl (SepI.cast (Ent.sep (S := _) (T := pts gf (.cells #[Value.int .i64 (id : Int), .int .i64 fn, .int .i64 r.a, .int .i64 r.b, .int .i64 r.c, .int .i64 r.d, .slice A0 rn.length c0, pv, .bool df, .bool ct, .bool lvv, .int .i64 en, .int .i64 pa] 154 (0, 0)) * (Row 191 2 (.slice A0 rn.length c0) rn.length (cPr rn) * (pts gp (.cells #[Value.int .i64 (idp : Int), .int .i64 fnp, .int .i64 rp.a, .int .i64 rp.b, .int .i64 rp.c, .int .i64 rp.d, .slice A9 rnp.length c9, up, .bool dfp, .bool false, .bool lvp, .int .i64 enp, .int .i64 pap] 154 (0, 0)) * (Row 191 2 (.slice A9 rnp.length c9) rnp.length (cPr rnp) * (pts gm (.cells #[Value.slice A n c, .int .i64 fuel, .int .i64 (mk : Int), .int .i64 sh, .int .i64 (dep : Int), .int .i64 (deep : Int), .slice A1 t.length c1, .slice A2 ow.length c2, .slice A3 cl.length c3, .slice A4 ps.length c4, .slice A5 rs.length c5, .map (some bm), .int .i64 0, .int .i64 0, .slice none 0 0, .int .i64 0] 98 (0, 0)) * (Row 75 3 (.slice A1 t.length c1) t.length (cEvs t) * (Row 3 1 (.slice A2 ow.length c2) ow.length (ints ow) * (Row 92 6 (.slice A3 cl.length c3) cl.length (cCis cl) * (Row 78 9 (.slice A4 ps.length c4) ps.length (cPvs ps) * (stars (ps.map unH) * (Row 90 3 (.slice A5 rs.length c5) rs.length (cRcs rs) * (MapH bm mk * (S))))))))))))) inferInstance inferInstance) (by rfl))) inferInstance⟩
  · cases lvv
    · as_aux_lemma =>
        have HQ : Hd (R = ((⟨mk, sh, dep, deep, t, ow, cl, ps.map (·.p), rs⟩ : Ma), (⟨id, fn, r.l, rn, df, ct, false, 1, pa⟩ : Fr))) := ⟨HR2.out⟩
        go_wp2
        go_end0
        rw [HQ.out]
        refine ⟨rfl, Post.mk' (MFP.shut ⟨A1, c1, A2, c2, A3, c3, A4, c4, A5, c5, bm, ps⟩ ⟨r, A0, c0⟩ ⟨rp, A9, c9⟩ rfl rfl rfl (SepI.cast (Ent.sep (S := _) (T := pts gf (.cells (#[Value.int .i64 (id : Int), .int .i64 fn, .int .i64 r.a, .int .i64 r.b, .int .i64 r.c, .int .i64 r.d, .slice A0 rn.length c0, pv, .bool df, .bool ct, .bool false, .int .i64 en, .int .i64 pa].setIfInBounds 11 (.int .i64 1)) 154 (0, 0)) * (Row 191 2 (.slice A0 rn.length c0) rn.length (cPr rn) * (pts gp (.cells #[Value.int .i64 (idp : Int), .int .i64 fnp, .int .i64 rp.a, .int .i64 rp.b, .int .i64 rp.c, .int .i64 rp.d, .slice A9 rnp.length c9, up, .bool dfp, .bool true, .bool lvp, .int .i64 enp, .int .i64 pap] 154 (0, 0)) * (Row 191 2 (.slice A9 rnp.length c9) rnp.length (cPr rnp) * (pts gm (.cells #[Value.slice A n c, .int .i64 fuel, .int .i64 (mk : Int), .int .i64 sh, .int .i64 (dep : Int), .int .i64 (deep : Int), .slice A1 t.length c1, .slice A2 ow.length c2, .slice A3 cl.length c3, .slice A4 ps.length c4, .slice A5 rs.length c5, .map (some bm), .int .i64 0, .int .i64 0, .slice none 0 0, .int .i64 0] 98 (0, 0)) * (Row 75 3 (.slice A1 t.length c1) t.length (cEvs t) * (Row 3 1 (.slice A2 ow.length c2) ow.length (ints ow) * (Row 92 6 (.slice A3 cl.length c3) cl.length (cCis cl) * (Row 78 9 (.slice A4 ps.length c4) ps.length (cPvs ps) * (stars (ps.map unH) * (Row 90 3 (.slice A5 rs.length c5) rs.length (cRcs rs) * (MapH bm mk * (S))))))))))))) inferInstance inferInstance) (by rfl))) inferInstance⟩
    · as_aux_lemma =>
        have HQ : Hd (R = ((⟨mk, sh, dep, deep, t, ow, cl, ps.map (·.p), rs⟩ : Ma), (⟨id, fn, r.l, rn, df, ct, true, 3, pa⟩ : Fr))) := ⟨HR2.out⟩
        go_wp2
        go_end0
        rw [HQ.out]
        refine ⟨rfl, Post.mk' (MFP.shut ⟨A1, c1, A2, c2, A3, c3, A4, c4, A5, c5, bm, ps⟩ ⟨r, A0, c0⟩ ⟨rp, A9, c9⟩ rfl rfl rfl (SepI.cast (Ent.sep (S := _) (T := pts gf (.cells (#[Value.int .i64 (id : Int), .int .i64 fn, .int .i64 r.a, .int .i64 r.b, .int .i64 r.c, .int .i64 r.d, .slice A0 rn.length c0, pv, .bool df, .bool ct, .bool true, .int .i64 en, .int .i64 pa].setIfInBounds 11 (.int .i64 3)) 154 (0, 0)) * (Row 191 2 (.slice A0 rn.length c0) rn.length (cPr rn) * (pts gp (.cells #[Value.int .i64 (idp : Int), .int .i64 fnp, .int .i64 rp.a, .int .i64 rp.b, .int .i64 rp.c, .int .i64 rp.d, .slice A9 rnp.length c9, up, .bool dfp, .bool true, .bool lvp, .int .i64 enp, .int .i64 pap] 154 (0, 0)) * (Row 191 2 (.slice A9 rnp.length c9) rnp.length (cPr rnp) * (pts gm (.cells #[Value.slice A n c, .int .i64 fuel, .int .i64 (mk : Int), .int .i64 sh, .int .i64 (dep : Int), .int .i64 (deep : Int), .slice A1 t.length c1, .slice A2 ow.length c2, .slice A3 cl.length c3, .slice A4 ps.length c4, .slice A5 rs.length c5, .map (some bm), .int .i64 0, .int .i64 0, .slice none 0 0, .int .i64 0] 98 (0, 0)) * (Row 75 3 (.slice A1 t.length c1) t.length (cEvs t) * (Row 3 1 (.slice A2 ow.length c2) ow.length (ints ow) * (Row 92 6 (.slice A3 cl.length c3) cl.length (cCis cl) * (Row 78 9 (.slice A4 ps.length c4) ps.length (cPvs ps) * (stars (ps.map unH) * (Row 90 3 (.slice A5 rs.length c5) rs.length (cRcs rs) * (MapH bm mk * (S))))))))))))) inferInstance inferInstance) (by rfl))) inferInstance⟩
end Go.Proofs.Ytobikkdnalnllaa
