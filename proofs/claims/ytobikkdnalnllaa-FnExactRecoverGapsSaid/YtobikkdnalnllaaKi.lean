/- The program's machine: the end of a call. Conditions: lengths within bounds. -/
import Derived.Test.YtobikkdnalnllaaKh
namespace Go.Proofs.Ytobikkdnalnllaa
open Go.RowKit SL
attribute [local go_sem] cell_blk frozen_blk lt_blk cell_at frozen_row lt_row
set_option linter.unusedVariables false
set_option linter.unusedSimpArgs false

theorem pn_set2 {m : Ma} {ps : List Pv} (hm : ps.map (·.p) = m.panics) {a : Int} {k : Nat} {x : Pv} (hk : a.toNat = k) (h : ps[k]? = some x) (g : Pn → Pn) (u : Value) : pnSet m a g = { m with panics := (ps.set k ⟨g x.p, u⟩).map (·.p) } := by
  unfold pnSet pnAt
  rw [← hm, hk, List.getD_eq_getElem?_getD, List.getElem?_map, h, List.map_set]
  rfl
theorem stars_at {l : List Pv} {k : Nat} {x : Pv} (h : l[k]? = some x) : stars (l.map unH) = unH x * stars ((l.take k ++ l.drop (k + 1)).map unH) := by
  have hk := (List.getElem?_eq_some_iff.1 h)
  obtain ⟨hk, hx⟩ := hk
  have e : l = l.take k ++ x :: l.drop (k + 1) := by
    rw [← hx, List.getElem_cons_drop, List.take_append_drop]
  conv => lhs; rw [e]
  rw [List.map_append, List.map_cons, stars_mid, ← List.map_append]
theorem stars_set {l : List Pv} {k : Nat} {x y : Pv} (h : l[k]? = some x) : stars ((l.set k y).map unH) = unH y * stars ((l.take k ++ l.drop (k + 1)).map unH) := by
  have hk := (List.getElem?_eq_some_iff.1 h).1
  rw [stars_at (x := y) (List.getElem?_set_self hk)]
  congr 4
  · rw [List.take_set, List.set_eq_of_length_le (by rw [List.length_take]; omega)]
  · rw [List.drop_set, if_pos (by omega)]
set_option maxRecDepth 100000 in
set_option maxHeartbeats 8000000 in
theorem impl_finish (S : HP) (w : World) (gm : Nat) (A : Option Addr) (n c : Nat) (fuel : Int) (m : Ma) (gf : Nat) (pv : Value) (f : Fr) [H : SepI w (Mach gm A n c fuel m * (FrH gf pv f * S))] (hm : Small m) (hid : f.id < m.calls.length) (hen : f.en = 1 ∨ f.en = 2 ∨ f.en = 3) (hpa : f.en = 2 → 0 ≤ f.pa ∧ f.pa.toNat < m.panics.length) :
    Calls Try.prog 151 #[.pointer (some ⟨gm, 0, none⟩), .pointer (some ⟨gf, 0, none⟩)] w (DoneF S gm gf A n c fuel pv (finishM m f) f w) := by
  obtain ⟨⟨A1, c1, A2, c2, A3, c3, A4, c4, A5, c5, bm, ps⟩, ⟨r, A0, c0⟩, hps, hr, H1⟩ := MF.open H
  obtain ⟨mk, sh, dep, deep, t, ow, cl, pn, rs⟩ := m
  obtain ⟨id, fn, rg, rn, df, ct, lv, en, pa⟩ := f
  simp only at hps hr
  subst hps hr
  unfold FrC MachC at H1
  simp only at H1
  clear H
  have HM := Hd.mk hm
  have ht := hm.t
  have ho := hm.o
  have hcl := hm.c
  simp only at ht ho hcl hid hen hpa
  have HPAN := Hd.mk hpa
  clear hm hpa
  obtain ⟨np, hnp⟩ : ∃ np, np = ps.length := ⟨_, rfl⟩
  rw [← hnp] at H1
  have HNP := Hd.mk hnp
  clear hnp
  obtain ⟨cx, hcx⟩ := get_ex (xs := cl) (k := id) hid
  obtain ⟨g3, rfl⟩ := Row.addr (SepI.pickR H1 (inferInstance : PickR _ _ _ (.slice A3 cl.length c3) _ _ _)) (by omega)
  obtain ⟨nc, hnc⟩ : ∃ nc, nc = cl.length := ⟨_, rfl⟩
  rw [← hnc] at H1 hid hcl
  have hidI : (id : Int) < nc := by omega
  obtain ⟨cf, cu, cd, ce, cv, ca⟩ := cx
  obtain ⟨KD, HKD⟩ : ∃ z : Int, Hd (z = endKind en) := ⟨_, ⟨rfl⟩⟩
  obtain ⟨VL, HVL⟩ : ∃ z : Int, Hd (z = endVal (⟨mk, sh, dep, deep, t, ow, cl, ps.map (·.p), rs⟩ : Ma) (⟨id, fn, r.l, rn, df, ct, lv, en, pa⟩ : Fr)) := ⟨_, ⟨rfl⟩⟩
  obtain ⟨cl', HCL⟩ : ∃ q : List Ci, Hd (q = cl.set id ⟨cf, cu, cd, en, VL, ca⟩) := ⟨_, ⟨rfl⟩⟩
  have HNC : Hd (nc = cl'.length) := ⟨by rw [HCL.out, List.length_set]; exact hnc⟩
  have HCC : Hd (((cCis cl).set (id * 6 + 3) (.int .i64 en)).set (id * 6 + 4) (.int .i64 VL) = cCis cl') := ⟨by
    rw [cCis_set (y := ⟨cf, cu, cd, en, cv, ca⟩) hcx (by omega) rfl, cCis_set (x := ⟨cf, cu, cd, en, cv, ca⟩) (y := ⟨cf, cu, cd, en, VL, ca⟩) (List.getElem?_set_self (by omega)) (by omega) rfl, List.set_set, HCL.out]⟩
  have c1' : ∀ F, CellAt (Row 92 6 (.slice (some ⟨g3, 0, none⟩) nc c3) nc (cCis cl) * F) g3 (id * 6 + 3) (.int .i64 ce) := fun F => Row.cellAt (by rw [cCis_get hcx (by omega)]; rfl)
  have c2' : ∀ F, CellAt (Row 92 6 (.slice (some ⟨g3, 0, none⟩) nc c3) nc ((cCis cl).set (id * 6 + 3) (.int .i64 en)) * F) g3 (id * 6 + 4) (.int .i64 cv) := fun F => Row.cellAt (by rw [List.getElem?_set_ne (by omega), cCis_get hcx (by omega)]; rfl)
  obtain ⟨M1, HM1⟩ : ∃ M1, Hd (M1 = if en = 2 then pnSet (⟨mk, sh, dep, deep, t, ow, cl, ps.map (·.p), rs⟩ : Ma) pa (fun x => { x with un := x.un ++ [fn] }) else (⟨mk, sh, dep, deep, t, ow, cl, ps.map (·.p), rs⟩ : Ma)) := ⟨_, ⟨rfl⟩⟩
  have HFN : Hd (∀ pn2, M1 = (⟨mk, sh, dep, deep, t, ow, cl, pn2, rs⟩ : Ma) → finishM (⟨mk, sh, dep, deep, t, ow, cl, ps.map (·.p), rs⟩ : Ma) (⟨id, fn, r.l, rn, df, ct, lv, en, pa⟩ : Fr) = tellM (⟨mk, sh, dep, deep, t, ow, cl', pn2, rs⟩ : Ma) KD fn VL id) := ⟨fun pn2 h => by
    unfold finishM
    simp only
    rw [← HM1.out, h, ← HKD.out, ← HVL.out]
    unfold ciSet
    simp only
    rw [List.getD_eq_getElem?_getD, hcx, HCL.out]
    rfl⟩
  obtain ⟨R, hR⟩ : ∃ R, finishM (⟨mk, sh, dep, deep, t, ow, cl, ps.map (·.p), rs⟩ : Ma) (⟨id, fn, r.l, rn, df, ct, lv, en, pa⟩ : Fr) = R := ⟨_, rfl⟩
  have HFR : Hd (∀ pn2, M1 = (⟨mk, sh, dep, deep, t, ow, cl, pn2, rs⟩ : Ma) → R = tellM (⟨mk, sh, dep, deep, t, ow, cl', pn2, rs⟩ : Ma) KD fn VL id) := ⟨fun pn2 h => by rw [← hR]; exact HFN.out pn2 h⟩
  rw [hR]
  clear HCL hcx hnc HFN hR
  go_enter Try.func151, Try.ntmps151
  go_upto_block 0 with fail
  go_cut [4, 5] (fun v4 v5 wx => ∃ ps2 : List Pv, v4 = .int .i64 KD ∧ v5 = .int .i64 VL ∧ ExtI w wx ∧ Hd (M1 = (⟨mk, sh, dep, deep, t, ow, cl, ps2.map (·.p), rs⟩ : Ma)) ∧ Hd (np = ps2.length) ∧ SepI wx (pts gf (.cells #[Value.int .i64 (id : Int), .int .i64 fn, .int .i64 r.a, .int .i64 r.b, .int .i64 r.c, .int .i64 r.d, .slice A0 rn.length c0, pv, .bool df, .bool ct, .bool lv, .int .i64 en, .int .i64 pa] 154 (0, 0)) * (Row 191 2 (.slice A0 rn.length c0) rn.length (cPr rn) * (pts gm (.cells #[Value.slice A n c, .int .i64 fuel, .int .i64 (mk : Int), .int .i64 sh, .int .i64 (dep : Int), .int .i64 (deep : Int), .slice A1 t.length c1, .slice A2 ow.length c2, .slice (some ⟨g3, 0, none⟩) nc c3, .slice A4 np c4, .slice A5 rs.length c5, .map (some bm), .int .i64 0, .int .i64 0, .slice none 0 0, .int .i64 0] 98 (0, 0)) * (Row 75 3 (.slice A1 t.length c1) t.length (cEvs t) * (Row 3 1 (.slice A2 ow.length c2) ow.length (ints ow) * (Row 92 6 (.slice (some ⟨g3, 0, none⟩) nc c3) nc (cCis cl) * (Row 78 9 (.slice A4 np c4) np (cPvs ps2) * (stars (ps2.map unH) * (Row 90 3 (.slice A5 rs.length c5) rs.length (cRcs rs) * (MapH bm mk * (S))))))))))))
  case first =>
    rcases hen with rfl | rfl | rfl
    · obtain rfl : KD = 7 := HKD.out
      obtain rfl : VL = r.b := HVL.out
      have HM2 : Hd (M1 = (⟨mk, sh, dep, deep, t, ow, cl, ps.map (·.p), rs⟩ : Ma)) := ⟨by rw [HM1.out, if_neg (by omega)]⟩
      clear HM1 HKD HVL
      go_wp2
      refine wp_region_W 6 7 (by kernel_rfl) (by kernel_rfl) (fun w' => w'.cell? ⟨gf, 3, none⟩ = some (.int .i64 r.b)) (cb) (fun hHeld => ?_)
      refine tkp 0 hHeld ?_
      refine tkp 1 hHeld ?_
      refine tkp 2 hHeld ?_
      refine tkp 3 hHeld ?_
      refine tkl 4 hHeld ?_
      refine tkp 5 hHeld ?_
      refine wpAnyW_done (by kernel_rfl) ?_
      go_wp2
      go_meet
      exact ⟨ps, rfl, rfl, inferInstance, HM2, HNP, inferInstance⟩
    · obtain rfl : KD = 8 := HKD.out
      have hpa := HPAN.out rfl
      obtain ⟨k, rfl⟩ : ∃ k : Nat, pa = k := ⟨pa.toNat, by omega⟩
      rw [Int.toNat_natCast, List.length_map, ← HNP.out] at hpa
      have hkn : (k : Int) < np := by omega
      obtain ⟨x, hx⟩ := pn_get (ps := ps) (k := k) (by rw [← HNP.out]; omega)
      have hun := HM.out.u x.p (List.mem_map.2 ⟨x, List.mem_of_getElem? hx, rfl⟩)
      obtain ⟨⟨ca, fx, va, de, fa, by_, la, ag, un⟩, u⟩ := x
      simp only at hun
      obtain rfl : VL = va := by rw [HVL.out]; show (pnAt (⟨mk, sh, dep, deep, t, ow, cl, ps.map (·.p), rs⟩ : Ma) (k : Int)).va = va; rw [pn_at rfl (Int.toNat_natCast k) hx]
      obtain ⟨g4, rfl⟩ := Row.addr (SepI.pickR H1 (inferInstance : PickR _ _ _ (.slice A4 np c4) _ _ _)) (by omega)
      obtain ⟨SR, hSR⟩ : ∃ SR, SR = stars ((ps.take k ++ ps.drop (k + 1)).map unH) := ⟨_, rfl⟩
      have HSU : SepI w (pts gf (.cells #[Value.int .i64 (id : Int), .int .i64 fn, .int .i64 r.a, .int .i64 r.b, .int .i64 r.c, .int .i64 r.d, .slice A0 rn.length c0, pv, .bool df, .bool ct, .bool lv, .int .i64 2, .int .i64 (k : Int)] 154 (0, 0)) * (Row 191 2 (.slice A0 rn.length c0) rn.length (cPr rn) * (pts gm (.cells #[Value.slice A n c, .int .i64 fuel, .int .i64 (mk : Int), .int .i64 sh, .int .i64 (dep : Int), .int .i64 (deep : Int), .slice A1 t.length c1, .slice A2 ow.length c2, .slice (some ⟨g3, 0, none⟩) nc c3, .slice (some ⟨g4, 0, none⟩) np c4, .slice A5 rs.length c5, .map (some bm), .int .i64 0, .int .i64 0, .slice none 0 0, .int .i64 0] 98 (0, 0)) * (Row 75 3 (.slice A1 t.length c1) t.length (cEvs t) * (Row 3 1 (.slice A2 ow.length c2) ow.length (ints ow) * (Row 92 6 (.slice (some ⟨g3, 0, none⟩) nc c3) nc (cCis cl) * (Row 78 9 (.slice (some ⟨g4, 0, none⟩) np c4) np (cPvs ps) * (Row 3 1 u un.length (ints un) * (SR * (Row 90 3 (.slice A5 rs.length c5) rs.length (cRcs rs) * (MapH bm mk * (S)))))))))))) := SepI.cast H1 (by rw [stars_at hx, ← hSR, star_assoc]; rfl)
      obtain ⟨Au, cu2, rfl, hcu, hcu'⟩ := Row.form (SepI.pickR HSU (inferInstance : PickR _ _ _ u _ _ _))
      clear hcu hcu' H1
      obtain ⟨un', HUN⟩ : ∃ q : List Int, Hd (q = un ++ [fn]) := ⟨_, ⟨rfl⟩⟩
      have HU1 : Hd (un.length + 1 = un'.length) := ⟨by rw [HUN.out, List.length_append]; rfl⟩
      have HU2 : Hd (ints un ++ #[Value.int .i64 fn].toList = ints un') := ⟨by rw [HUN.out, ints_append]; rfl⟩
      have HX := Hd.mk hx
      have d1 : ∀ F, CellAt (Row 78 9 (.slice (some ⟨g4, 0, none⟩) np c4) np (cPvs ps) * F) g4 (k * 9 + 8) (.slice Au un.length cu2) := fun F => Row.cellAt (by rw [cPvs_get hx (by omega)]; rfl)
      have d2 : ∀ F, CellAt (Row 78 9 (.slice (some ⟨g4, 0, none⟩) np c4) np (cPvs ps) * F) g4 (k * 9 + 2) (.int .i64 VL) := fun F => Row.cellAt (by rw [cPvs_get hx (by omega)]; rfl)
      have HSR := Hd.mk hSR
      have HM3 : Hd (M1 = pnSet (⟨mk, sh, dep, deep, t, ow, cl, ps.map (·.p), rs⟩ : Ma) (k : Int) (fun x => { x with un := x.un ++ [fn] })) := ⟨by rw [HM1.out, if_pos rfl]⟩
      clear HVL hx hSR HM HKD HM1
      go_wp2
      refine wp_region_W 12 13 (by kernel_rfl) (by kernel_rfl) (fun w' => w'.cell? ⟨gm, 9, none⟩ = some (.slice (some ⟨g4, 0, none⟩) np c4) ∧ w'.cell? ⟨gf, 12, none⟩ = some (.int .i64 (k : Int)) ∧ w'.cell? ⟨g4, k * 9 + 2, none⟩ = some (.int .i64 VL)) ⟨cb, cb, cell_at _ _ _ _ _⟩ (fun hHeld => ?_)
      refine tkp 0 hHeld ?_
      refine tkp 1 hHeld ?_
      refine tkp 2 hHeld ?_
      refine tkl 3 hHeld ?_
      refine tkp 4 hHeld ?_
      refine tkp 5 hHeld ?_
      refine tkp 6 hHeld ?_
      refine tkl 7 hHeld ?_
      refine tkp 8 hHeld ?_
      refine tkp 9 hHeld ?_
      refine tkl 10 hHeld ?_
      refine tkp 11 hHeld ?_
      refine wpAnyW_done (by kernel_rfl) ?_
      go_wp2
      refine wp_region_W 25 28 (by kernel_rfl) (by kernel_rfl) (fun w' => w'.cell? ⟨gm, 9, none⟩ = some (.slice (some ⟨g4, 0, none⟩) np c4) ∧ w'.cell? ⟨gf, 12, none⟩ = some (.int .i64 (k : Int)) ∧ w'.cell? ⟨gf, 1, none⟩ = some (.int .i64 fn) ∧ w'.cell? ⟨g4, k * 9 + 8, none⟩ = some (.slice Au un.length cu2)) ⟨cb, cb, cb, cell_at _ _ _ _ _⟩ (fun hHeld => ?_)
      refine tkp 0 hHeld ?_
      refine tkp 1 hHeld ?_
      refine tkp 2 hHeld ?_
      refine tkl 3 hHeld ?_
      refine tkp 4 hHeld ?_
      refine tkp 5 hHeld ?_
      refine tkp 6 hHeld ?_
      refine tkl 7 hHeld ?_
      refine tkp 8 hHeld ?_
      refine tkp 9 hHeld ?_
      refine tkp 10 hHeld ?_
      refine tkl 11 hHeld ?_
      refine tkp 12 hHeld ?_
      refine tkp 13 hHeld ?_
      refine tkp 14 hHeld ?_
      refine tkl 15 hHeld ?_
      refine tkp 16 hHeld ?_
      refine tkp 17 hHeld ?_
      refine tkl 18 hHeld ?_
      refine tkp 19 hHeld ?_
      refine tkp 20 hHeld ?_
      refine tkp 21 hHeld ?_
      refine tkl 22 hHeld ?_
      refine wpAnyW_one false (i := 23) (by kernel_rfl) rfl (by kernel_rfl) (by rfl) (fun KK hKK => ?_)
      refine st_list rfl ?_
      go_wp2
      refine ⟨rfl, ?_⟩
      refine hKK.out _ _ (.inr ⟨cb, cb, cb, cell_at _ _ _ _ _⟩) (fun hHeld => ?_)
      clear hKK KK
      try simp only [Act.put, List.setIfInBounds_toArray, List.set_cons_zero, List.set_cons_succ]
      refine wpAnyW_one false (i := 24) (by kernel_rfl) rfl (by kernel_rfl) (by rfl) (fun KK hKK => ?_)
      refine st_list rfl (ev_append (v := .slice Au un.length cu2) rfl _ _ 26 rfl rfl 8 _ Try.underlying26 info_int rfl (by decide) (by decide) _ 1 1 rfl rfl (by simp [Value.oneCell']) (by omega) ?_)
      intro v5 w5 HS5 HE5
      replace HS5 := Row.as HS5 HU1.out HU2.out
      obtain ⟨A7, c7, rfl, hc7, hc7'⟩ := Row.form HS5
      clear hc7 hc7'
      refine ⟨rfl, ?_⟩
      refine hKK.out _ _ (.inr ⟨cb, cb, cb, cell_at _ _ _ _ _⟩) (fun hHeld => ?_)
      clear hKK KK
      try simp only [Act.put, List.setIfInBounds_toArray, List.set_cons_zero, List.set_cons_succ]
      refine wpAnyW_done (by kernel_rfl) ?_
      go_wp2
      go_meet
      refine ⟨ps.set k ⟨⟨ca, fx, VL, de, fa, by_, la, ag, un'⟩, .slice A7 un'.length c7⟩, rfl, rfl, inferInstance, ⟨?_⟩, ⟨by rw [List.length_set]; exact HNP.out⟩, SepI.cast (Ent.sep (S := _) (T := pts gf (.cells #[Value.int .i64 (id : Int), .int .i64 fn, .int .i64 r.a, .int .i64 r.b, .int .i64 r.c, .int .i64 r.d, .slice A0 rn.length c0, pv, .bool df, .bool ct, .bool lv, .int .i64 2, .int .i64 (k : Int)] 154 (0, 0)) * (Row 191 2 (.slice A0 rn.length c0) rn.length (cPr rn) * (pts gm (.cells #[Value.slice A n c, .int .i64 fuel, .int .i64 (mk : Int), .int .i64 sh, .int .i64 (dep : Int), .int .i64 (deep : Int), .slice A1 t.length c1, .slice A2 ow.length c2, .slice (some ⟨g3, 0, none⟩) nc c3, .slice (some ⟨g4, 0, none⟩) np c4, .slice A5 rs.length c5, .map (some bm), .int .i64 0, .int .i64 0, .slice none 0 0, .int .i64 0] 98 (0, 0)) * (Row 75 3 (.slice A1 t.length c1) t.length (cEvs t) * (Row 3 1 (.slice A2 ow.length c2) ow.length (ints ow) * (Row 92 6 (.slice (some ⟨g3, 0, none⟩) nc c3) nc (cCis cl) * (Row 78 9 (.slice (some ⟨g4, 0, none⟩) np c4) np ((cPvs ps).set (k * 9 + 8) (.slice A7 un'.length c7)) * (Row 3 1 (.slice A7 un'.length c7) un'.length (ints un') * (SR * (Row 90 3 (.slice A5 rs.length c5) rs.length (cRcs rs) * (MapH bm mk * (S)))))))))))) inferInstance inferInstance) ?_⟩
      · rw [HM3.out, HUN.out]; exact pn_set2 (m := (⟨mk, sh, dep, deep, t, ow, cl, ps.map (·.p), rs⟩ : Ma)) rfl (Int.toNat_natCast k) HX.out (fun x => { x with un := x.un ++ [fn] }) _
      · rw [← cPvs_set (j := 8) (y := ⟨⟨ca, fx, VL, de, fa, by_, la, ag, un'⟩, .slice A7 un'.length c7⟩) HX.out (by omega) rfl, stars_set HX.out, ← HSR.out, star_assoc]; rfl
    · obtain rfl : KD = 9 := HKD.out
      obtain rfl : VL = 0 := HVL.out
      have HM2 : Hd (M1 = (⟨mk, sh, dep, deep, t, ow, cl, ps.map (·.p), rs⟩ : Ma)) := ⟨by rw [HM1.out, if_neg (by omega)]⟩
      clear HM1 HKD HVL
      go_wp2
      go_meet
      exact ⟨ps, rfl, rfl, inferInstance, HM2, HNP, inferInstance⟩
  case rest =>
  obtain ⟨ps2, rfl, rfl, HEc, HQ1, HN2, HSc⟩ := hcut
  clear H1 HM HPAN hen
  have HRR := Hd.mk (HFR.out _ HQ1.out)
  clear HFR HQ1 HM1 HKD HVL
  go_wp2
  refine wp_region_W 25 24 (by kernel_rfl) (by kernel_rfl) (fun w' => w'.cell? ⟨gm, 8, none⟩ = some (.slice (some ⟨g3, 0, none⟩) nc c3) ∧ w'.cell? ⟨gf, 0, none⟩ = some (.int .i64 (id : Int)) ∧ w'.cell? ⟨gf, 11, none⟩ = some (.int .i64 en)) ⟨cb, cb, cb⟩ (fun hHeld => ?_)
  refine tkp 0 hHeld ?_
  refine tkp 1 hHeld ?_
  refine tkp 2 hHeld ?_
  refine tkl 3 hHeld ?_
  refine tkp 4 hHeld ?_
  refine tkp 5 hHeld ?_
  refine tkp 6 hHeld ?_
  refine tkl 7 hHeld ?_
  refine tkp 8 hHeld ?_
  refine tkp 9 hHeld ?_
  refine tkp 10 hHeld ?_
  refine tkl 11 hHeld ?_
  refine tkp 12 hHeld ?_
  refine tkp 13 hHeld ?_
  refine tkp 14 hHeld ?_
  refine tkl 15 hHeld ?_
  refine tkp 16 hHeld ?_
  refine tkp 17 hHeld ?_
  refine tkp 18 hHeld ?_
  refine tkl 19 hHeld ?_
  refine tkp 20 hHeld ?_
  refine tkp 21 hHeld ?_
  refine tkp 22 hHeld ?_
  refine tkp 23 hHeld ?_
  refine wpAnyW_one true (i := 24) (by kernel_rfl) rfl (by kernel_rfl) (by rfl) (fun KK hKK => ?_)
  refine st_list rfl ?_
  go_wp2
  refine ⟨rfl, ?_⟩
  refine hKK.out _ _ (.inl rfl) (fun hHeld => ?_)
  clear hKK KK
  try simp only [Act.put, List.setIfInBounds_toArray, List.set_cons_zero, List.set_cons_succ]
  refine wpAnyW_done (by kernel_rfl) ?_
  go_wp2
  refine wp_region_W 11 12 (by kernel_rfl) (by kernel_rfl) (fun w' => w'.cell? ⟨gf, 1, none⟩ = some (.int .i64 fn) ∧ w'.cell? ⟨gf, 0, none⟩ = some (.int .i64 (id : Int))) ⟨cb, cb⟩ (fun hHeld => ?_)
  refine tkp 0 hHeld ?_
  refine tkp 1 hHeld ?_
  refine tkp 2 hHeld ?_
  refine tkp 3 hHeld ?_
  refine tkp 4 hHeld ?_
  refine tkl 5 hHeld ?_
  refine tkp 6 hHeld ?_
  refine tkp 7 hHeld ?_
  refine tkp 8 hHeld ?_
  refine tkp 9 hHeld ?_
  refine tkl 10 hHeld ?_
  refine wpAnyW_done (by kernel_rfl) ?_
  go_wp2_with (go_at_call 148; refine (@impl_tell (pts gf (.cells #[Value.int .i64 (id : Int), .int .i64 fn, .int .i64 r.a, .int .i64 r.b, .int .i64 r.c, .int .i64 r.d, .slice A0 rn.length c0, pv, .bool df, .bool ct, .bool lv, .int .i64 en, .int .i64 pa] 154 (0, 0)) * (Row 191 2 (.slice A0 rn.length c0) rn.length (cPr rn) * (S))) _ gm A n c fuel (⟨mk, sh, dep, deep, t, ow, cl', ps2.map (·.p), rs⟩ : Ma) (Mach.shut ⟨A1, c1, A2, c2, some ⟨g3, 0, none⟩, c3, A4, c4, A5, c5, bm, ps2⟩ rfl (SepI.cast (Ent.sep (S := _) (T := pts gm (.cells #[Value.slice A n c, .int .i64 fuel, .int .i64 (mk : Int), .int .i64 sh, .int .i64 (dep : Int), .int .i64 (deep : Int), .slice A1 t.length c1, .slice A2 ow.length c2, .slice (some ⟨g3, 0, none⟩) nc c3, .slice A4 np c4, .slice A5 rs.length c5, .map (some bm), .int .i64 0, .int .i64 0, .slice none 0 0, .int .i64 0] 98 (0, 0)) * (Row 75 3 (.slice A1 t.length c1) t.length (cEvs t) * (Row 3 1 (.slice A2 ow.length c2) ow.length (ints ow) * (Row 92 6 (.slice (some ⟨g3, 0, none⟩) nc c3) nc (((cCis cl).set (id * 6 + 3) (.int .i64 en)).set (id * 6 + 4) (.int .i64 VL)) * (Row 78 9 (.slice A4 np c4) np (cPvs ps2) * (stars (ps2.map unH) * (Row 90 3 (.slice A5 rs.length c5) rs.length (cRcs rs) * (MapH bm mk * (pts gf (.cells #[Value.int .i64 (id : Int), .int .i64 fn, .int .i64 r.a, .int .i64 r.b, .int .i64 r.c, .int .i64 r.d, .slice A0 rn.length c0, pv, .bool df, .bool ct, .bool lv, .int .i64 en, .int .i64 pa] 154 (0, 0)) * (Row 191 2 (.slice A0 rn.length c0) rn.length (cPr rn) * (S))))))))))) inferInstance inferInstance) (by unfold MachC; simp only []; rw [HCC.out, ← HNC.out, ← HN2.out] <;> rfl))) ht ho KD fn VL id).mono ?_; rintro e w4 ⟨rfl, HP⟩; have HS4 := HP.sep; have HE4 := HP.ext; clear HP)
  go_wp2
  go_end0
  rw [HRR.out]
  refine ⟨rfl, Post.mk' (FM.shut ⟨r, A0, c0⟩ rfl (SepI.cast (Ent.sep (S := _) (T := pts gf (.cells #[Value.int .i64 (id : Int), .int .i64 fn, .int .i64 r.a, .int .i64 r.b, .int .i64 r.c, .int .i64 r.d, .slice A0 rn.length c0, pv, .bool df, .bool ct, .bool lv, .int .i64 en, .int .i64 pa] 154 (0, 0)) * (Row 191 2 (.slice A0 rn.length c0) rn.length (cPr rn) * (Mach gm A n c fuel (tellM (⟨mk, sh, dep, deep, t, ow, cl', ps2.map (·.p), rs⟩ : Ma) KD fn VL id) * (S)))) inferInstance inferInstance) (by rfl))) inferInstance⟩
end Go.Proofs.Ytobikkdnalnllaa
