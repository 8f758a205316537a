/- The program's machine: a run. Conditions: lengths within bounds. -/
import Derived.Test.YtobikkdnalnllaaQi
namespace Go.Proofs.Ytobikkdnalnllaa
open Go.RowKit SL
attribute [local go_sem] cell_blk frozen_blk lt_blk cell_at frozen_row lt_row
set_option linter.unusedVariables false
set_option linter.unusedSimpArgs false

def EndO (L : List (List St)) (fu : Nat) : Out (Option Fr × Fr) → Prop
  | .spent m => True
  | .ok m (_, f) => Ended L fu m f
def runOut : Out (Option Fr × Fr) → Run
  | .spent m => ⟨m, 4, 0⟩
  | .ok m (_, f) => ⟨if f.en = 2 then pnSet m f.pa (fun x => { x with fa := 3 }) else m, f.en, (m.calls.getD 0 ⟨0, 0, false, 0, 0, 0⟩).va⟩
theorem ranM_eq (L : List (List St)) (fn arg : Int) (fu : Nat) : ranM L fn arg fu = runOut (callM L fu 8 (zeroM 0) fn arg none false) := by
  unfold ranM
  cases callM L fu 8 (zeroM 0) fn arg none false with
  | spent m => rfl
  | ok m x => obtain ⟨par, f⟩ := x; rfl
set_option maxRecDepth 100000 in
set_option maxHeartbeats 8000000 in
theorem impl_ranFromP (S : HP) (w : World) [H : SepI w S] (A : Option Addr) (c : Nat) (bs : List Bd) [r : Rd S A (cBds bs)] [B : Bodies S bs] (fn arg fuel shared : Int) (hp : progB (bs.map (·.l)) = true) (hq : inB fn 0 ((bs.length : Int) - 1) = true) (hu : inB arg (-32768) 32767 = true) (fu : Nat) (hfu : fuel = fu) (hv : inB fuel 0 200 = true) (h0 : shared = 0) (L : List (List St)) (P Q : Ma → List Fr → Prop) (HC : ∀ gm, CallW L fu P Q gm A bs.length c bs 8) (hP0 : P (zeroM 0) []) (h1 : FnOk L fn) (h2 : n16 arg) (hE : EndO L fu (callM L fu 8 (zeroM 0) fn arg none false)) :
    Calls Try.prog 101 #[.agg #[.slice A bs.length c], .int .i64 fn, .int .i64 arg, .int .i64 fuel, .int .i64 shared] w (RanP S A bs.length c fu (ranM L fn arg fu) w) := by
  have hbn := B.n
  obtain ⟨ub, hub⟩ : ∃ ub : Int, ub = (bs.length : Int) - 1 := ⟨_, rfl⟩
  have hwl : IntKind.i64.wrap ((bs.length : Int) - 1) = ub := by rw [hub]; exact IntWalk.i64_in _ (by omega)
  subst hfu h0
  have HP0 := Hd.mk hp
  clear hp
  rw [← hub] at hq
  have HF0 := Hd.mk hq
  clear hq hub
  have HA0 := Hd.mk hu
  clear hu
  have HU0 := Hd.mk hv
  clear hv
  have hnot : ∀ (x : Bool) (w : World), (Op.unary .not (.bool x)).run Try.prog w = .ok (.bool (!x)) w := fun _ _ => rfl
  have HCC := Hd.mk HC
  have HP00 := Hd.mk hP0
  have HN1 := Hd.mk h1
  have HN2 := Hd.mk h2
  obtain ⟨o, ho⟩ : ∃ o, callM L fu 8 (zeroM 0) fn arg none false = o := ⟨_, rfl⟩
  have HO := Hd.mk ho
  rw [ho] at hE
  have HEE := Hd.mk hE
  obtain ⟨RR, hRR⟩ : ∃ RR, ranM L fn arg fu = RR := ⟨_, rfl⟩
  rw [hRR]
  have HRR : Hd (RR = runOut o) := ⟨by rw [← hRR, ← ho]; exact ranM_eq L fn arg fu⟩
  have hmm := @run_makeMap Try.prog
  clear HC hP0 h1 h2 ho hE hRR
  go_enter Try.func101, Try.ntmps101
  go_wp2_with fail
  refine (impl_IsProgram _ _ _ _ bs _ HP0.out).mono ?_
  rintro e w1 ⟨rfl, HP⟩
  have HS1 := HP.sep
  have HE1 := HP.ext
  clear HP
  go_wp2_with fail
  refine (impl_in _ _ _ _ _ HF0.out).mono ?_
  rintro e wz ⟨rfl, hz⟩
  have hz2 := hz.symm
  subst hz2
  clear hz
  go_wp2_with fail
  refine (impl_isNumber _ _ _ HA0.out).mono ?_
  rintro e wz ⟨rfl, hz⟩
  have hz2 := hz.symm
  subst hz2
  clear hz
  go_wp2_with fail
  refine (impl_in _ _ _ _ _ HU0.out).mono ?_
  rintro e wz ⟨rfl, hz⟩
  have hz2 := hz.symm
  subst hz2
  clear hz
  go_wp2_with fail
  refine (impl_first (HCC.out _) (pts w.heap.size (.cells #[.slice A bs.length c] 31 (0, 0)) * S) _ (zeroM 0) fn arg inferInstance inferInstance (H := Mach.zero (bm := w1.heap.size) (SepI.cast (Ent.sep (S := _) (T := pts (w1.heap.size + 1) (.cells #[Value.slice A bs.length c, .int .i64 (fu : Int), .int .i64 0, .int .i64 0, .int .i64 0, .int .i64 0, .slice none 0 0, .slice none 0 0, .slice none 0 0, .slice none 0 0, .slice none 0 0, .map (some w1.heap.size), .int .i64 0, .int .i64 0, .slice none 0 0, .int .i64 0] 98 (0, 0)) * (pts w1.heap.size (.map #[] 0) * (pts w.heap.size (.cells #[.slice A bs.length c] 31 (0, 0)) * (S)))) inferInstance inferInstance) (by rfl))) HP00.out HN1.out HN2.out rfl).mono ?_
  intro e w4 hP
  rw [HO.out] at hP
  clear HO HCC HP00
  cases o with
  | spent m2 =>
    have HQ : Hd (RR = ⟨m2, 4, 0⟩) := HRR
    clear HRR HEE
    obtain ⟨rfl, HP⟩ := hP
    obtain ⟨⟨A1, c1, A2, c2, A3, c3, A4, c4, A5, c5, bm, ps⟩, hps, H1⟩ := Mach.open HP.sep
    have HE4 := HP.ext
    clear HP
    obtain ⟨mk, sh, dep, deep, t, ow, cl, pn, rs⟩ := m2
    simp only at hps
    subst hps
    unfold MachC at H1
    simp only at H1
    go_wp2
    refine wp_region_W 10 13 (by kernel_rfl) (by kernel_rfl) (fun w' => w'.cell? ⟨(w1.heap.size + 1), 6, none⟩ = some (.slice A1 t.length c1) ∧ w'.cell? ⟨(w1.heap.size + 1), 2, none⟩ = some (.int .i64 (mk : Int))) ⟨cb, cb⟩ (fun hHeld => ?_)
    refine tkp 0 hHeld ?_
    refine tkp 1 hHeld ?_
    refine tkp 2 hHeld ?_
    refine tkp 3 hHeld ?_
    refine tkl 4 hHeld ?_
    refine tkp 5 hHeld ?_
    refine tkp 6 hHeld ?_
    refine tkp 7 hHeld ?_
    refine tkl 8 hHeld ?_
    refine tkp 9 hHeld ?_
    refine wpAnyW_done (by kernel_rfl) ?_
    go_wp2
    go_ret2
    rw [HQ.out]
    exact ⟨w1.heap.size + 1, ⟨A1, c1, A2, c2, A3, c3, A4, c4, A5, c5, bm, ps⟩, rfl, rfl, Post.mk' (SepI.cast (Ent.sep (S := _) (T := pts (w1.heap.size + 1) (.cells ((((#[Value.slice A bs.length c, .int .i64 (fu : Int), .int .i64 (mk : Int), .int .i64 sh, .int .i64 (dep : Int), .int .i64 (deep : Int), .slice A1 t.length c1, .slice A2 ow.length c2, .slice A3 cl.length c3, .slice A4 ps.length c4, .slice A5 rs.length c5, .map (some bm), .int .i64 0, .int .i64 0, .slice none 0 0, .int .i64 0].setIfInBounds 12 (.int .i64 4)).setIfInBounds 13 (.int .i64 0)).setIfInBounds 14 (.slice A1 t.length c1)).setIfInBounds 15 (.int .i64 (mk : Int))) 98 (0, 0)) * (Row 75 3 (.slice A1 t.length c1) t.length (cEvs t) * (Row 3 1 (.slice A2 ow.length c2) ow.length (ints ow) * (Row 92 6 (.slice A3 cl.length c3) cl.length (cCis cl) * (Row 78 9 (.slice A4 ps.length c4) ps.length (cPvs ps) * (stars (ps.map unH) * (Row 90 3 (.slice A5 rs.length c5) rs.length (cRcs rs) * (MapH bm mk * (S))))))))) inferInstance inferInstance) (by rfl)) inferInstance⟩
  | ok m2 x =>
    obtain ⟨par, f⟩ := x
    have hE := HEE.out
    have HQ : Hd (RR = ⟨if f.en = 2 then pnSet m2 f.pa (fun x => { x with fa := 3 }) else m2, f.en, (m2.calls.getD 0 ⟨0, 0, false, 0, 0, 0⟩).va⟩) := HRR
    obtain ⟨cx, hcx, hz1, hz2⟩ := hE.res
    clear hz1 hz2
    have HPA := Hd.mk hE.fr.pa
    clear HRR HEE hE
    obtain ⟨gf, rfl, HP⟩ := hP
    obtain ⟨⟨A1, c1, A2, c2, A3, c3, A4, c4, A5, c5, bm, ps⟩, ⟨r, A0, c0⟩, hps, hr, H1⟩ := MF.open HP.sep
    have HE4 := HP.ext
    clear HP
    obtain ⟨mk, sh, dep, deep, t, ow, cl, pn, rs⟩ := m2
    obtain ⟨id, fn', rg, rn, df, ct, lv, en, pa⟩ := f
    simp only at hps hr hcx
    subst hps hr
    unfold FrC MachC at H1
    simp only at H1
    have hcl : 0 < cl.length := (List.getElem?_eq_some_iff.1 hcx).1
    obtain ⟨g3, rfl⟩ := Row.addr (SepI.pickR H1 (inferInstance : PickR _ _ _ (.slice A3 cl.length c3) _ _ _)) hcl
    obtain ⟨nc, hnc⟩ : ∃ nc, nc = cl.length := ⟨_, rfl⟩
    rw [← hnc] at H1 hcl
    have HNC := Hd.mk hnc
    obtain ⟨cf, cu, cd, ce, cv, ca⟩ := cx
    have dC : ∀ F, CellAt (Row 92 6 (.slice (some ⟨g3, 0, none⟩) nc c3) nc (cCis cl) * F) g3 4 (.int .i64 cv) := fun F => Row.cellAt (by have := cCis_get hcx (i := 4) (by omega); rw [Nat.zero_mul, Nat.zero_add] at this; rw [this]; rfl)
    have hncI : (0 : Int) < nc := by omega
    have HCV : Hd ((cl.getD 0 (⟨0, 0, false, 0, 0, 0⟩ : Ci)).va = cv) := ⟨by rw [List.getD_eq_getElem?_getD, hcx]; rfl⟩
    clear hcx hnc
    go_wp2
    refine wp_region_W 10 13 (by kernel_rfl) (by kernel_rfl) (fun w' => w'.cell? ⟨(w1.heap.size + 1), 6, none⟩ = some (.slice A1 t.length c1) ∧ w'.cell? ⟨(w1.heap.size + 1), 2, none⟩ = some (.int .i64 (mk : Int))) ⟨cb, cb⟩ (fun hHeld => ?_)
    refine tkp 0 hHeld ?_
    refine tkp 1 hHeld ?_
    refine tkp 2 hHeld ?_
    refine tkp 3 hHeld ?_
    refine tkl 4 hHeld ?_
    refine tkp 5 hHeld ?_
    refine tkp 6 hHeld ?_
    refine tkp 7 hHeld ?_
    refine tkl 8 hHeld ?_
    refine tkp 9 hHeld ?_
    refine wpAnyW_done (by kernel_rfl) ?_
    go_wp2
    refine wp_region_W 18 17 (by kernel_rfl) (by kernel_rfl) (fun w' => w'.cell? ⟨gf, 11, none⟩ = some (.int .i64 en) ∧ w'.cell? ⟨(w1.heap.size + 1), 8, none⟩ = some (.slice (some ⟨g3, 0, none⟩) nc c3) ∧ w'.cell? ⟨g3, 4, none⟩ = some (.int .i64 cv)) ⟨cb, cb, cell_at _ _ _ _ _⟩ (fun hHeld => ?_)
    refine tkp 0 hHeld ?_
    refine tkp 1 hHeld ?_
    refine tkp 2 hHeld ?_
    refine tkp 3 hHeld ?_
    refine tkp 4 hHeld ?_
    refine tkl 5 hHeld ?_
    refine tkp 6 hHeld ?_
    refine tkp 7 hHeld ?_
    refine tkp 8 hHeld ?_
    refine tkl 9 hHeld ?_
    refine tkp 10 hHeld ?_
    refine tkp 11 hHeld ?_
    refine tkp 12 hHeld ?_
    refine tkl 13 hHeld ?_
    refine tkp 14 hHeld ?_
    refine tkp 15 hHeld ?_
    refine tkp 16 hHeld ?_
    refine wpAnyW_one true (i := 17) (by kernel_rfl) rfl (by kernel_rfl) (by rfl) (fun KK hKK => ?_)
    refine st_list rfl ?_
    go_wp2
    refine ⟨rfl, ?_⟩
    refine hKK.out _ _ (.inl rfl) (fun hHeld => ?_)
    clear hKK KK
    try simp only [Act.put, List.setIfInBounds_toArray, List.set_cons_zero, List.set_cons_succ]
    refine wpAnyW_done (by kernel_rfl) ?_
    go_upto_if 84 with fail
    by_cases h2 : en = 2
    rotate_left
    · have h2' : (en == 2) = false := beq_eq_false_iff_ne.2 h2
      have HQ2 : Hd (RR = ⟨(⟨mk, sh, dep, deep, t, ow, cl, ps.map (·.p), rs⟩ : Ma), en, cv⟩) := ⟨by rw [HQ.out, if_neg h2]; show Run.mk _ _ _ = _; rw [HCV.out]⟩
      clear h2 HQ
      go_wp2
      go_ret2
      rw [HQ2.out]
      exact ⟨w1.heap.size + 1, ⟨A1, c1, A2, c2, some ⟨g3, 0, none⟩, c3, A4, c4, A5, c5, bm, ps⟩, rfl, rfl, Post.mk' (SepI.cast (Ent.sep (S := _) (T := pts (w1.heap.size + 1) (.cells ((((((#[Value.slice A bs.length c, .int .i64 (fu : Int), .int .i64 (mk : Int), .int .i64 sh, .int .i64 (dep : Int), .int .i64 (deep : Int), .slice A1 t.length c1, .slice A2 ow.length c2, .slice (some ⟨g3, 0, none⟩) nc c3, .slice A4 ps.length c4, .slice A5 rs.length c5, .map (some bm), .int .i64 0, .int .i64 0, .slice none 0 0, .int .i64 0].setIfInBounds 12 (.int .i64 4)).setIfInBounds 13 (.int .i64 0)).setIfInBounds 14 (.slice A1 t.length c1)).setIfInBounds 15 (.int .i64 (mk : Int))).setIfInBounds 12 (.int .i64 en)).setIfInBounds 13 (.int .i64 cv)) 98 (0, 0)) * (Row 75 3 (.slice A1 t.length c1) t.length (cEvs t) * (Row 3 1 (.slice A2 ow.length c2) ow.length (ints ow) * (Row 92 6 (.slice (some ⟨g3, 0, none⟩) nc c3) nc (cCis cl) * (Row 78 9 (.slice A4 ps.length c4) ps.length (cPvs ps) * (stars (ps.map unH) * (Row 90 3 (.slice A5 rs.length c5) rs.length (cRcs rs) * (MapH bm mk * (S))))))))) inferInstance inferInstance) (by unfold MachRC; simp only []; rw [← HNC.out]; rfl)) inferInstance⟩
    subst h2
    have hpa := HPA.out rfl
    obtain ⟨k1, rfl⟩ : ∃ k : Nat, pa = k := ⟨pa.toNat, by omega⟩
    rw [Int.toNat_natCast, List.length_map] at hpa
    obtain ⟨g4, rfl⟩ := Row.addr (SepI.pickR H1 (inferInstance : PickR _ _ _ (.slice A4 ps.length c4) _ _ _)) (by omega)
    obtain ⟨np, hnp⟩ : ∃ np, np = ps.length := ⟨_, rfl⟩
    rw [← hnp] at H1 hpa
    have hk1 : (k1 : Int) < np := by omega
    obtain ⟨x, hx⟩ := pn_get (ps := ps) (k := k1) (by omega)
    obtain ⟨⟨ca3, fx, va, de, fa, by_, la, ag, un⟩, u⟩ := x
    obtain ⟨ps1, HP1⟩ : ∃ q : List Pv, Hd (q = ps.set k1 ⟨⟨ca3, fx, va, de, 3, by_, la, ag, un⟩, u⟩) := ⟨_, ⟨rfl⟩⟩
    have HLN : Hd (np = ps1.length) := ⟨by rw [HP1.out, List.length_set]; exact hnp⟩
    have HUN : Hd (ps1.map unH = ps.map unH) := ⟨by rw [HP1.out]; exact un_set hx rfl⟩
    have HC2 : Hd ((cPvs ps).set (k1 * 9 + 4) (.int .i64 3) = cPvs ps1) := ⟨by rw [HP1.out]; exact cPvs_set hx (by omega) rfl⟩
    have HM1 : Hd (pnSet (⟨mk, sh, dep, deep, t, ow, cl, ps.map (·.p), rs⟩ : Ma) (k1 : Int) (fun x => { x with fa := 3 }) = (⟨mk, sh, dep, deep, t, ow, cl, ps1.map (·.p), rs⟩ : Ma)) := ⟨by rw [HP1.out]; exact pn_set rfl (Int.toNat_natCast k1) hx _⟩
    have d1 : ∀ F, CellAt (Row 78 9 (.slice (some ⟨g4, 0, none⟩) np c4) np (cPvs ps) * F) g4 (k1 * 9 + 4) (.int .i64 fa) := fun F => Row.cellAt (by rw [cPvs_get hx (by omega)]; rfl)
    have HQ2 : Hd (RR = ⟨(⟨mk, sh, dep, deep, t, ow, cl, ps1.map (·.p), rs⟩ : Ma), 2, cv⟩) := ⟨by
      rw [HQ.out]
      show Run.mk (pnSet (⟨mk, sh, dep, deep, t, ow, cl, ps.map (·.p), rs⟩ : Ma) (k1 : Int) (fun x => { x with fa := 3 })) 2 _ = _
      rw [HM1.out]
      show Run.mk _ _ _ = _
      rw [HCV.out]⟩
    clear HP1 hx hnp HM1 HQ hpa
    go_wp2
    refine wp_region_W 8 11 (by kernel_rfl) (by kernel_rfl) (fun w' => w'.cell? ⟨(w1.heap.size + 1), 9, none⟩ = some (.slice (some ⟨g4, 0, none⟩) np c4) ∧ w'.cell? ⟨gf, 12, none⟩ = some (.int .i64 (k1 : Int))) ⟨cb, cb⟩ (fun hHeld => ?_)
    refine tkp 0 hHeld ?_
    refine tkp 1 hHeld ?_
    refine tkp 2 hHeld ?_
    refine tkl 3 hHeld ?_
    refine tkp 4 hHeld ?_
    refine tkp 5 hHeld ?_
    refine tkp 6 hHeld ?_
    refine tkl 7 hHeld ?_
    refine wpAnyW_done (by kernel_rfl) ?_
    go_wp2
    go_ret2
    rw [HQ2.out]
    exact ⟨w1.heap.size + 1, ⟨A1, c1, A2, c2, some ⟨g3, 0, none⟩, c3, some ⟨g4, 0, none⟩, c4, A5, c5, bm, ps1⟩, rfl, rfl, Post.mk' (SepI.cast (Ent.sep (S := _) (T := pts (w1.heap.size + 1) (.cells ((((((#[Value.slice A bs.length c, .int .i64 (fu : Int), .int .i64 (mk : Int), .int .i64 sh, .int .i64 (dep : Int), .int .i64 (deep : Int), .slice A1 t.length c1, .slice A2 ow.length c2, .slice (some ⟨g3, 0, none⟩) nc c3, .slice (some ⟨g4, 0, none⟩) np c4, .slice A5 rs.length c5, .map (some bm), .int .i64 0, .int .i64 0, .slice none 0 0, .int .i64 0].setIfInBounds 12 (.int .i64 4)).setIfInBounds 13 (.int .i64 0)).setIfInBounds 14 (.slice A1 t.length c1)).setIfInBounds 15 (.int .i64 (mk : Int))).setIfInBounds 12 (.int .i64 2)).setIfInBounds 13 (.int .i64 cv)) 98 (0, 0)) * (Row 75 3 (.slice A1 t.length c1) t.length (cEvs t) * (Row 3 1 (.slice A2 ow.length c2) ow.length (ints ow) * (Row 92 6 (.slice (some ⟨g3, 0, none⟩) nc c3) nc (cCis cl) * (Row 78 9 (.slice (some ⟨g4, 0, none⟩) np c4) np ((cPvs ps).set (k1 * 9 + 4) (.int .i64 3)) * (stars (ps.map unH) * (Row 90 3 (.slice A5 rs.length c5) rs.length (cRcs rs) * (MapH bm mk * (S))))))))) inferInstance inferInstance) (by unfold MachRC; simp only []; rw [HC2.out, HUN.out, ← HLN.out, ← HNC.out]; rfl)) inferInstance⟩
end Go.Proofs.Ytobikkdnalnllaa
