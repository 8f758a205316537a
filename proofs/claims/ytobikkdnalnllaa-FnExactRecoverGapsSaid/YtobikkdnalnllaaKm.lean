/- The program's machine: the body of a call. Conditions: lengths within bounds. -/
import Derived.Test.YtobikkdnalnllaaKl
import Derived.Test.YtobikkdnalnllaaNo
namespace Go.Proofs.Ytobikkdnalnllaa
open Go.RowKit SL
attribute [local go_sem] cell_blk frozen_blk lt_blk cell_at frozen_row lt_row
set_option linter.unusedVariables false
set_option linter.unusedSimpArgs false

/-- What a body leaves. -/
def BodyP (S : HP) (gm gf : Nat) (A : Option Addr) (n c : Nat) (fuel : Int) (loc : Option (Nat × Value)) (o : Out (Fr × Option Fr)) (w : World) (e : Ending) (w' : World) : Prop := match o with
  | .spent m => e = spentE ∧ Post w (Mach gm A n c fuel m * S) w'
  | .ok m (f, par) => e = .returned (.tuple #[]) ∧ Post w (Mach gm A n c fuel m * (FrH gf (pvOf loc) f * (ParH loc par * S))) w'
theorem hnot_pos {x : Int} (h : 0 < x) : (x > 0) = True := by simp [h]
set_option maxRecDepth 100000 in
set_option maxHeartbeats 16000000 in
theorem impl_body {L : List (List St)} {fu : Nat} {P Q : Ma → List Fr → Prop} {F : Ma → Fr → List Fr → Prop} (I : Inv L fu P Q F) (hL : ProgOk L) (hfu : fu ≤ 100000) {gm : Nat} {A : Option Addr} {n c : Nat} {bs : List Bd} (hbs : bs.map (·.l) = L) (hn : bs.length = n) {d : Nat} (HC : CallW L fu P Q gm A n c bs d)
    (S : HP) (w : World) (m0 : Ma) (f0 : Fr) (st0 : List Fr) (loc : Option (Nat × Value)) (gf : Nat) (rdA : Rd S A (cBds bs)) (bd : Bodies S bs) [H : SepI w (Mach gm A n c fu m0 * (FrH gf (pvOf loc) f0 * (ParH loc st0.head? * S)))] (hloc : loc.isSome = st0.head?.isSome) (hp : P m0 (f0 :: st0)) (he : f0.en = 1) (hdep : m0.depth + d = 8) (hmade : ∀ m st, P m st → m.made ≤ fu) :
    Calls Try.prog 149 #[.pointer (some ⟨gm, 0, none⟩), .pointer (some ⟨gf, 0, none⟩)] w (BodyP S gm gf A n c fu loc (bodyM (callM L fu d) L fu (fu + 1) m0 f0 st0.head? 0) w) := by
  obtain ⟨R, hR⟩ : ∃ R, bodyM (callM L fu d) L fu (fu + 1) m0 f0 st0.head? 0 = R := ⟨_, rfl⟩
  have HST : Hd (InB L fu P (callM L fu d) R st0 f0.fn d (fu + 1) m0 f0 st0.head? 0) := ⟨⟨by rw [putHead_self]; exact hp, rfl, he, rfl, hdep, by omega, hmade _ _ hp, hR⟩⟩
  rw [hR]
  have hfo := (I.fr _ _ hp f0 List.mem_cons_self).1.fn
  have HI := Hd.mk I
  have HLL := Hd.mk hL
  have HCC := Hd.mk HC
  have HMD := Hd.mk hmade
  have HLOC := Hd.mk hloc
  obtain ⟨fuel, hfuel⟩ : ∃ fuel : Int, fuel = fu := ⟨_, rfl⟩
  have HFU := Hd.mk hfuel
  rw [← hfuel] at H ⊢
  obtain ⟨par0, hpar0⟩ : ∃ p, p = st0.head? := ⟨_, rfl⟩
  rw [← hpar0] at H HST
  have HS0 := Hd.mk H
  unfold FnOk at hfo
  have hkf : f0.fn.toNat < bs.length := by rw [← hbs, List.length_map] at hfo; omega
  obtain ⟨x, hx⟩ := get_ex hkf
  obtain ⟨kf, hkf'⟩ : ∃ kf : Nat, f0.fn = kf := ⟨f0.fn.toNat, by omega⟩
  rw [hkf', Int.toNat_natCast] at hx hkf
  obtain ⟨b0, off, rfl⟩ := rdA.addr H.right.right.right (j := kf) (by rw [cBds_len]; exact hkf)
  have cA := rdA.cell (cBds_get hx)
  have rx := bd.rd x (List.mem_of_getElem? hx)
  have sx := bd.small x (List.mem_of_getElem? hx)
  have HBO : Hd (bodyOf L (kf : Int) = x.l) := ⟨by unfold bodyOf; rw [← hbs, List.getD_eq_getElem?_getD, List.getElem?_map]; simp [hx]⟩
  obtain ⟨xp, xc, xl⟩ := x
  simp only at cA rx sx HBO
  clear hx
  obtain ⟨nx, hnx⟩ : ∃ nx, nx = xl.length := ⟨_, rfl⟩
  have HNX := Hd.mk hnx
  rw [← hnx] at cA sx
  have hkn : (kf : Int) < n := by omega
  have HKN : Hd (kf < bs.length) := ⟨hkf⟩
  rw [hkf'] at HST
  have HFN := Hd.mk hkf'
  clear hR hp he hdep I hL HC hmade hloc hfuel hpar0 hfo hkf hbs hn hnx hkf'
  obtain ⟨⟨A1, c1, A2, c2, A3, c3, A4, c4, A5, c5, bm, ps⟩, ⟨r, A0, c0⟩, hps, hr, H1⟩ := MF.open H
  obtain ⟨mk, sh, dep, deep, t, ow, cl, pn, rs⟩ := m0
  obtain ⟨id, fn, rg, rn, df, ct, lv, en, pa⟩ := f0
  simp only at hps hr
  subst hps hr
  obtain rfl : fn = (kf : Int) := HFN.out
  unfold FrC MachC at H1
  simp only at H1
  clear H HFN
  go_enter Try.func149, Try.ntmps149
  go_wp2
  refine wp_region_W 9 12 (by kernel_rfl) (by kernel_rfl) (fun w' => w'.cell? ⟨gm, 0, none⟩ = some (.slice (some ⟨b0, off, none⟩) n c) ∧ w'.cell? ⟨gf, 1, none⟩ = some (.int .i64 (kf : Int)) ∧ w'.cell? ⟨b0, off + kf, none⟩ = some (.slice xp nx xc)) ⟨cb, cb, cell_at _ _ _ _ _⟩ (fun hHeld => ?_)
  refine tkp 0 hHeld ?_
  refine tkp 1 hHeld ?_
  refine tkp 2 hHeld ?_
  refine tkp 3 hHeld ?_
  refine tkl 4 hHeld ?_
  refine tkp 5 hHeld ?_
  refine tkp 6 hHeld ?_
  refine tkp 7 hHeld ?_
  refine tkl 8 hHeld ?_
  refine wpAnyW_done (by kernel_rfl) ?_
  go_wp2_with fail
  go_loopg [5] (fu + 1) (fun gk v5 wr => ∃ (m : Ma) (f : Fr) (par : Option Fr) (at_ : Nat), v5 = .int .i64 (at_ : Int) ∧ ExtI w wr ∧ Hd (InB L fu P (callM L fu d) R st0 (kf : Int) d gk m f par at_) ∧ SepI wr (Mach gm (some ⟨b0, off, none⟩) n c fuel m * (FrH gf (pvOf loc) f * (ParH loc par * S))))
  case atStart => exact ⟨_, _, par0, 0, rfl, inferInstance, HST, HS0.out.stays fun _ _ => rfl⟩
  case round =>
  obtain ⟨m, f, par, at_, rfl, HX, HIN, HSR⟩ := hrel
  clear HS0 HST H1 hHeld
  have hsm := HI.out.small _ _ HIN.out.p
  have hfo := HI.out.fr _ _ HIN.out.p f List.mem_cons_self
  obtain ⟨⟨A1, c1, A2, c2, A3, c3, A4, c4, A5, c5, bm, ps⟩, ⟨r, A0, c0⟩, hps, hr, H1⟩ := MF.open HSR
  obtain ⟨mk, sh, dep, deep, t, ow, cl, pn, rs⟩ := m
  obtain ⟨id, fn, rg, rn, df, ct, lv, en, pa⟩ := f
  simp only at hps hr
  subst hps hr
  obtain rfl : fn = (kf : Int) := HIN.out.fn
  unfold FrC MachC at H1
  simp only at H1
  have hmk := HIN.out.le
  have h16 := hfo.1.regs
  simp only at hmk h16
  have HSM := Hd.mk hsm
  have HFO := Hd.mk hfo
  clear HSR hsm hfo
  by_cases hlt : at_ < nx
  rotate_left
  · have HQ : Hd (R = .ok (⟨mk, sh, dep, deep, t, ow, cl, ps.map (·.p), rs⟩ : Ma) ((⟨id, (kf : Int), r.l, rn, df, ct, lv, en, pa⟩ : Fr), par)) := ⟨HIN.out.leave (by rw [HBO.out]; exact List.getElem?_eq_none (by have := HNX.out; omega))⟩
    have hlt' : ¬ (at_ : Int) < nx := by omega
    clear hlt
    go_wp2
    go_end0
    rw [HQ.out]
    exact ⟨rfl, Post.mk' (MF.shut ⟨A1, c1, A2, c2, A3, c3, A4, c4, A5, c5, bm, ps⟩ ⟨r, A0, c0⟩ rfl rfl (SepI.cast (Ent.sep (S := _) (T := pts gf (.cells #[Value.int .i64 (id : Int), .int .i64 (kf : Int), .int .i64 r.a, .int .i64 r.b, .int .i64 r.c, .int .i64 r.d, .slice A0 rn.length c0, pvOf loc, .bool df, .bool ct, .bool lv, .int .i64 en, .int .i64 pa] 154 (0, 0)) * (Row 191 2 (.slice A0 rn.length c0) rn.length (cPr rn) * (pts gm (.cells #[Value.slice (some ⟨b0, off, none⟩) n c, .int .i64 fuel, .int .i64 (mk : Int), .int .i64 sh, .int .i64 (dep : Int), .int .i64 (deep : Int), .slice A1 t.length c1, .slice A2 ow.length c2, .slice A3 cl.length c3, .slice A4 ps.length c4, .slice A5 rs.length c5, .map (some bm), .int .i64 0, .int .i64 0, .slice none 0 0, .int .i64 0] 98 (0, 0)) * (Row 75 3 (.slice A1 t.length c1) t.length (cEvs t) * (Row 3 1 (.slice A2 ow.length c2) ow.length (ints ow) * (Row 92 6 (.slice A3 cl.length c3) cl.length (cCis cl) * (Row 78 9 (.slice A4 ps.length c4) ps.length (cPvs ps) * (stars (ps.map unH) * (Row 90 3 (.slice A5 rs.length c5) rs.length (cRcs rs) * (MapH bm mk * (ParH loc par * (S)))))))))))) inferInstance inferInstance) (by rfl))) inferInstance⟩
  have hltI : (at_ : Int) < nx := by omega
  obtain ⟨s, hs⟩ := get_ex (xs := xl) (k := at_) (by rw [← HNX.out]; exact hlt)
  obtain ⟨sk, sa, sb⟩ := s
  have HB2 : Hd ((bodyOf L (kf : Int))[at_]? = some ⟨sk, sa, sb⟩) := ⟨by rw [HBO.out]; exact hs⟩
  by_cases hm : mk = fu
  · have HQ : Hd (R = .spent (⟨mk, sh, dep, deep, t, ow, cl, ps.map (·.p), rs⟩ : Ma)) := ⟨HIN.out.stuck HB2.out hm⟩
    have hmI : ((mk : Int) == fuel) = true := by have := HFU.out; simp; omega
    have hpn : ∀ w : World, (Instr.panic (.iface 170 (.agg #[]))).run Try.prog w = .halt (.panic (.iface 170 (.agg #[]))) w := fun _ => rfl
    clear hm hs hlt
    as_aux_lemma =>
      go_wp2
      refine wp_region_W 8 9 (by kernel_rfl) (by kernel_rfl) (fun w' => w'.cell? ⟨gm, 2, none⟩ = some (.int .i64 (mk : Int)) ∧ w'.cell? ⟨gm, 1, none⟩ = some (.int .i64 fuel)) ⟨cb, cb⟩ (fun hHeld => ?_)
      refine tkp 0 hHeld ?_
      refine tkp 1 hHeld ?_
      refine tkp 2 hHeld ?_
      refine tkl 3 hHeld ?_
      refine tkp 4 hHeld ?_
      refine tkp 5 hHeld ?_
      refine tkp 6 hHeld ?_
      refine tkl 7 hHeld ?_
      refine wpAnyW_done (by kernel_rfl) ?_
      go_wp2
      refine ⟨rfl, ?_⟩
      rw [HQ.out]
      exact ⟨rfl, Post.mk' (Mach.shut ⟨A1, c1, A2, c2, A3, c3, A4, c4, A5, c5, bm, ps⟩ rfl (SepI.cast (Ent.sep (S := _) (T := pts gm (.cells #[Value.slice (some ⟨b0, off, none⟩) n c, .int .i64 fuel, .int .i64 (mk : Int), .int .i64 sh, .int .i64 (dep : Int), .int .i64 (deep : Int), .slice A1 t.length c1, .slice A2 ow.length c2, .slice A3 cl.length c3, .slice A4 ps.length c4, .slice A5 rs.length c5, .map (some bm), .int .i64 0, .int .i64 0, .slice none 0 0, .int .i64 0] 98 (0, 0)) * (Row 75 3 (.slice A1 t.length c1) t.length (cEvs t) * (Row 3 1 (.slice A2 ow.length c2) ow.length (ints ow) * (Row 92 6 (.slice A3 cl.length c3) cl.length (cCis cl) * (Row 78 9 (.slice A4 ps.length c4) ps.length (cPvs ps) * (stars (ps.map unH) * (Row 90 3 (.slice A5 rs.length c5) rs.length (cRcs rs) * (MapH bm mk * (S))))))))) inferInstance inferInstance) (by rfl))) inferInstance⟩
  have hmI : ((mk : Int) == fuel) = false := beq_eq_false_iff_ne.2 (by have := HFU.out; omega)
  have HNE : Hd (mk ≠ fu) := ⟨hm⟩
  have hwm : IntKind.i64.wrap ((mk : Int) + 1) = (mk : Int) + 1 := IntWalk.i64_in _ (by omega)
  have hwa : IntKind.i64.wrap ((at_ : Int) + 1) = (at_ : Int) + 1 := IntWalk.i64_in _ (by omega)
  obtain ⟨bx, ox, rfl⟩ := rx.addr (S := S) (w := wr) H1.right.right.right.right.right.right.right.right.right.right.right (j := at_ * 3) (by rw [cSts_len, ← HNX.out]; omega)
  have e1 := rx.cell (cSts_get hs).1
  have e2 := rx.cell (cSts_get hs).2.1
  have e3 := rx.cell (cSts_get hs).2.2
  rw [← Nat.add_assoc] at e2 e3
  have HOK := Hd.mk (HLL.out _ _ (List.mem_of_getElem? HB2.out))
  have hkfB : -1048576 ≤ (kf : Int) ∧ (kf : Int) ≤ 1048576 := by have := bd.n; have := HKN.out; omega
  simp only at e1 e2 e3
  clear hm hs hlt
  go_wp2
  refine wp_region_W 8 9 (by kernel_rfl) (by kernel_rfl) (fun w' => w'.cell? ⟨gm, 2, none⟩ = some (.int .i64 (mk : Int)) ∧ w'.cell? ⟨gm, 1, none⟩ = some (.int .i64 fuel)) ⟨cb, cb⟩ (fun hHeld => ?_)
  refine tkp 0 hHeld ?_
  refine tkp 1 hHeld ?_
  refine tkp 2 hHeld ?_
  refine tkl 3 hHeld ?_
  refine tkp 4 hHeld ?_
  refine tkp 5 hHeld ?_
  refine tkp 6 hHeld ?_
  refine tkl 7 hHeld ?_
  refine wpAnyW_done (by kernel_rfl) ?_
  go_wp2
  refine wp_region_W 10 11 (by kernel_rfl) (by kernel_rfl) (fun w' => w'.cell? ⟨gm, 11, none⟩ = some (.map (some bm)) ∧ w'.cell? ⟨gf, 1, none⟩ = some (.int .i64 (kf : Int))) ⟨cb, cb⟩ (fun hHeld => ?_)
  refine tkp 0 hHeld ?_
  refine tkp 1 hHeld ?_
  refine tkp 2 hHeld ?_
  refine tkl 3 hHeld ?_
  refine tkp 4 hHeld ?_
  refine tkp 5 hHeld ?_
  refine tkp 6 hHeld ?_
  refine tkl 7 hHeld ?_
  refine tkp 8 hHeld ?_
  refine tkp 9 hHeld ?_
  refine wpAnyW_done (by kernel_rfl) ?_
  refine ev_mapset (b := bm) (n := mk) rfl _ _ _ rfl rfl (by omega) (kf : Int) (at_ : Int) rfl rfl hkfB (by omega) ?_
  intro w1 HS1 HE1
  go_upto_if 58 with fail
  by_cases k11 : sk = 11
  · subst k11
    have hok := HOK.out.2.2.2.2.2.1 rfl
    simp only at hok
    obtain ⟨kb, rfl⟩ : ∃ k : Nat, sb = k := ⟨sb.toNat, by omega⟩
    obtain ⟨ja, rfl⟩ : ∃ k : Nat, sa = k := ⟨sa.toNat, by omega⟩
    have hkI : (kb : Int) < 4 := by omega
    have hget : #[Value.int .i64 (id : Int), .int .i64 (kf : Int), .int .i64 r.a, .int .i64 r.b, .int .i64 r.c, .int .i64 r.d, .slice A0 rn.length c0, pvOf loc, .bool df, .bool ct, .bool lv, .int .i64 en, .int .i64 pa][2 + kb]? = some (.int .i64 (regAt r.l kb)) := frC_get (by omega)
    obtain ⟨k', hk', HIN'⟩ := HIN.out.jump HI.out.al HB2.out HNE.out rfl
    simp only [Int.toNat_natCast] at HIN'
    by_cases hj : 0 < regAt r.l kb
    · rw [if_pos hj] at HIN'
      have HIN2 := Hd.mk HIN'
      clear HIN' HIN hok
      as_aux_lemma =>
        go_wp2
        refine wp_region_W 5 8 (by kernel_rfl) (by kernel_rfl) (fun w' => w'.cell? ⟨w1.heap.size, 2, none⟩ = some (.int .i64 (kb : Int)) ∧ w'.cell? ⟨gf, 2 + kb, none⟩ = some (.int .i64 (regAt r.l kb))) ⟨cb, (cell_blk _ _ _ _ _ _ _).trans hget⟩ (fun hHeld => ?_)
        refine tkp 0 hHeld ?_
        refine tkp 1 hHeld ?_
        refine tkl 2 hHeld ?_
        refine tkp 3 hHeld ?_
        refine tkp 4 hHeld ?_
        refine wpAnyW_done (by kernel_rfl) ?_
        go_wp2
        go_roundg k'
        case measure => exact hk'
        case rel => exact ⟨(⟨(mk + 1), sh, dep, deep, t, ow, cl, ps.map (·.p), rs⟩ : Ma), (⟨id, (kf : Int), r.l, rn, df, ct, lv, en, pa⟩ : Fr), par, ja, rfl, inferInstance, HIN2, MF.shut ⟨A1, c1, A2, c2, A3, c3, A4, c4, A5, c5, bm, ps⟩ ⟨r, A0, c0⟩ rfl rfl (SepI.cast (Ent.sep (S := _) (T := pts gf (.cells #[Value.int .i64 (id : Int), .int .i64 (kf : Int), .int .i64 r.a, .int .i64 r.b, .int .i64 r.c, .int .i64 r.d, .slice A0 rn.length c0, pvOf loc, .bool df, .bool ct, .bool lv, .int .i64 en, .int .i64 pa] 154 (0, 0)) * (Row 191 2 (.slice A0 rn.length c0) rn.length (cPr rn) * (pts gm (.cells (#[Value.slice (some ⟨b0, off, none⟩) n c, .int .i64 fuel, .int .i64 (mk : Int), .int .i64 sh, .int .i64 (dep : Int), .int .i64 (deep : Int), .slice A1 t.length c1, .slice A2 ow.length c2, .slice A3 cl.length c3, .slice A4 ps.length c4, .slice A5 rs.length c5, .map (some bm), .int .i64 0, .int .i64 0, .slice none 0 0, .int .i64 0].setIfInBounds 2 (.int .i64 ((mk : Int) + 1))) 98 (0, 0)) * (Row 75 3 (.slice A1 t.length c1) t.length (cEvs t) * (Row 3 1 (.slice A2 ow.length c2) ow.length (ints ow) * (Row 92 6 (.slice A3 cl.length c3) cl.length (cCis cl) * (Row 78 9 (.slice A4 ps.length c4) ps.length (cPvs ps) * (stars (ps.map unH) * (Row 90 3 (.slice A5 rs.length c5) rs.length (cRcs rs) * (MapH bm (mk + 1) * (ParH loc par * (S)))))))))))) inferInstance inferInstance) (by rfl))⟩
    · rw [if_neg hj] at HIN'
      have HIN2 := Hd.mk HIN'
      clear HIN' HIN hok
      as_aux_lemma =>
        go_wp2
        refine wp_region_W 5 8 (by kernel_rfl) (by kernel_rfl) (fun w' => w'.cell? ⟨w1.heap.size, 2, none⟩ = some (.int .i64 (kb : Int)) ∧ w'.cell? ⟨gf, 2 + kb, none⟩ = some (.int .i64 (regAt r.l kb))) ⟨cb, (cell_blk _ _ _ _ _ _ _).trans hget⟩ (fun hHeld => ?_)
        refine tkp 0 hHeld ?_
        refine tkp 1 hHeld ?_
        refine tkl 2 hHeld ?_
        refine tkp 3 hHeld ?_
        refine tkp 4 hHeld ?_
        refine wpAnyW_done (by kernel_rfl) ?_
        go_wp2
        go_roundg k'
        case measure => exact hk'
        case rel => exact ⟨(⟨(mk + 1), sh, dep, deep, t, ow, cl, ps.map (·.p), rs⟩ : Ma), (⟨id, (kf : Int), r.l, rn, df, ct, lv, en, pa⟩ : Fr), par, at_ + 1, rfl, inferInstance, HIN2, MF.shut ⟨A1, c1, A2, c2, A3, c3, A4, c4, A5, c5, bm, ps⟩ ⟨r, A0, c0⟩ rfl rfl (SepI.cast (Ent.sep (S := _) (T := pts gf (.cells #[Value.int .i64 (id : Int), .int .i64 (kf : Int), .int .i64 r.a, .int .i64 r.b, .int .i64 r.c, .int .i64 r.d, .slice A0 rn.length c0, pvOf loc, .bool df, .bool ct, .bool lv, .int .i64 en, .int .i64 pa] 154 (0, 0)) * (Row 191 2 (.slice A0 rn.length c0) rn.length (cPr rn) * (pts gm (.cells (#[Value.slice (some ⟨b0, off, none⟩) n c, .int .i64 fuel, .int .i64 (mk : Int), .int .i64 sh, .int .i64 (dep : Int), .int .i64 (deep : Int), .slice A1 t.length c1, .slice A2 ow.length c2, .slice A3 cl.length c3, .slice A4 ps.length c4, .slice A5 rs.length c5, .map (some bm), .int .i64 0, .int .i64 0, .slice none 0 0, .int .i64 0].setIfInBounds 2 (.int .i64 ((mk : Int) + 1))) 98 (0, 0)) * (Row 75 3 (.slice A1 t.length c1) t.length (cEvs t) * (Row 3 1 (.slice A2 ow.length c2) ow.length (ints ow) * (Row 92 6 (.slice A3 cl.length c3) cl.length (cCis cl) * (Row 78 9 (.slice A4 ps.length c4) ps.length (cPvs ps) * (stars (ps.map unH) * (Row 90 3 (.slice A5 rs.length c5) rs.length (cRcs rs) * (MapH bm (mk + 1) * (ParH loc par * (S)))))))))))) inferInstance inferInstance) (by rfl))⟩
  have k11' : (sk == 11) = false := beq_eq_false_iff_ne.2 k11
  by_cases k4 : sk = 4
  · subst k4
    as_aux_lemma =>
      have hok := HOK.out.2.2.2.2.1 (.inl rfl)
      simp only at hok
      obtain ⟨kb, rfl⟩ : ∃ k : Nat, sb = k := ⟨sb.toNat, by omega⟩
      obtain ⟨o, ho⟩ : ∃ o, callM L fu d (⟨(mk + 1), sh, dep, deep, t, ow, cl, ps.map (·.p), rs⟩ : Ma) sa (regAt r.l kb) (some (⟨id, (kf : Int), r.l, rn, df, ct, lv, en, pa⟩ : Fr)) false = o := ⟨_, rfl⟩
      have hin := HIN.out.inn HI.out.al HI.out.dep (along2_call HI.out.al d) (mono_call L fu d) HMD.out HB2.out HNE.out rfl ho
      have HINN := Hd.mk hin
      have hq := HIN.out.made HI.out.al HB2.out HNE.out
      have HQQ := Hd.mk hq
      have HO := Hd.mk ho
      have HKB : Hd (kb < 4) := ⟨by omega⟩
      clear hin hq ho hok
      go_wp2_with fail
      refine (@impl_step4 L fu P Q F HI.out gm (some ⟨b0, off, none⟩) n c bs d HCC.out (pts w1.heap.size (.cells #[.int .i64 4, .int .i64 sa, .int .i64 (kb : Int)] 141 (0, 0)) * S) _ (⟨(mk + 1), sh, dep, deep, t, ow, cl, ps.map (·.p), rs⟩ : Ma) (⟨id, (kf : Int), r.l, rn, df, ct, lv, en, pa⟩ : Fr) (putHead par st0) loc gf inferInstance inferInstance (by rw [HIN.out.head, ← HFU.out]; exact (MF.shut ⟨A1, c1, A2, c2, A3, c3, A4, c4, A5, c5, bm, ps⟩ ⟨r, A0, c0⟩ rfl rfl (SepI.cast (Ent.sep (S := _) (T := pts gf (.cells #[Value.int .i64 (id : Int), .int .i64 (kf : Int), .int .i64 r.a, .int .i64 r.b, .int .i64 r.c, .int .i64 r.d, .slice A0 rn.length c0, pvOf loc, .bool df, .bool ct, .bool lv, .int .i64 en, .int .i64 pa] 154 (0, 0)) * (Row 191 2 (.slice A0 rn.length c0) rn.length (cPr rn) * (pts gm (.cells (#[Value.slice (some ⟨b0, off, none⟩) n c, .int .i64 fuel, .int .i64 (mk : Int), .int .i64 sh, .int .i64 (dep : Int), .int .i64 (deep : Int), .slice A1 t.length c1, .slice A2 ow.length c2, .slice A3 cl.length c3, .slice A4 ps.length c4, .slice A5 rs.length c5, .map (some bm), .int .i64 0, .int .i64 0, .slice none 0 0, .int .i64 0].setIfInBounds 2 (.int .i64 ((mk : Int) + 1))) 98 (0, 0)) * (Row 75 3 (.slice A1 t.length c1) t.length (cEvs t) * (Row 3 1 (.slice A2 ow.length c2) ow.length (ints ow) * (Row 92 6 (.slice A3 cl.length c3) cl.length (cCis cl) * (Row 78 9 (.slice A4 ps.length c4) ps.length (cPvs ps) * (stars (ps.map unH) * (Row 90 3 (.slice A5 rs.length c5) rs.length (cRcs rs) * (MapH bm (mk + 1) * (ParH loc par * (pts w1.heap.size (.cells #[.int .i64 4, .int .i64 sa, .int .i64 (kb : Int)] 141 (0, 0)) * (S))))))))))))) inferInstance inferInstance) (by rfl)))) (by rw [HIN.out.head, HIN.out.sm]; exact HLOC.out) sa kb HKB.out HQQ.out HIN.out.en (List.mem_of_getElem? HB2.out) HIN.out.dep).mono ?_
      intro e w4 hP
      rw [HIN.out.head, show callM L fu d (⟨(mk + 1), sh, dep, deep, t, ow, cl, ps.map (·.p), rs⟩ : Ma) sa (regAt (⟨id, (kf : Int), r.l, rn, df, ct, lv, en, pa⟩ : Fr).regs kb) (some (⟨id, (kf : Int), r.l, rn, df, ct, lv, en, pa⟩ : Fr)) false = o from HO.out, ← HFU.out] at hP
      clear HO HQQ
      cases o with
      | spent m2 =>
        have HQ := Hd.mk (HINN.out.1 m2 rfl)
        obtain ⟨rfl, HP⟩ := hP
        have HS4 := HP.sep
        have HE4 := HP.ext
        clear HP HINN
        unfold spentE
        go_wp2
        refine ⟨rfl, ?_⟩
        rw [HQ.out]
        exact ⟨rfl, Post.mk' (Ent.sep (S := _) (T := Mach gm (some ⟨b0, off, none⟩) n c fuel m2 * S) inferInstance inferInstance) inferInstance⟩
      | ok m2 x =>
        obtain ⟨pf, dd⟩ := x
        have hx := HINN.out.2 m2 pf dd rfl
        obtain ⟨gb, hgb⟩ : ∃ gb, innerM (pf.getD (⟨id, (kf : Int), r.l, rn, df, ct, lv, en, pa⟩ : Fr)) dd = gb := ⟨_, rfl⟩
        obtain ⟨hP1, HP⟩ := hP
        rw [hgb] at hx hP1 HP
        subst hP1
        obtain ⟨g, b⟩ := gb
        have HX2 := Hd.mk hx
        have HS4 := HP.sep
        have HE4 := HP.ext
        clear HP HINN hx hgb
        simp only at HS4
        cases b
        · obtain ⟨k', hk', HIN'⟩ := HX2.out.2 rfl
          have HIN2 := Hd.mk HIN'
          clear HIN' HX2
          go_wp2
          go_roundg k'
          case measure => exact hk'
          case rel => exact ⟨m2, g, par, at_ + 1, rfl, inferInstance, HIN2, Ent.sep (S := _) inferInstance inferInstance⟩
        · have HQ := Hd.mk (HX2.out.1 rfl)
          clear HX2
          go_wp2
          first | go_end0 | refine bodyPost_ret (results_none rfl _ _ _) rfl ?_
          rw [HQ.out]
          exact ⟨rfl, Post.mk' (Ent.sep (S := _) (T := Mach gm (some ⟨b0, off, none⟩) n c fuel m2 * (FrH gf (pvOf loc) g * (ParH loc par * S))) inferInstance inferInstance) inferInstance⟩
  as_aux_lemma =>
    obtain ⟨q, hq⟩ : ∃ q, stepM (⟨(mk + 1), sh, dep, deep, t, ow, cl, ps.map (·.p), rs⟩ : Ma) (⟨id, (kf : Int), r.l, rn, df, ct, lv, en, pa⟩ : Fr) par ⟨sk, sa, sb⟩ = q := ⟨_, rfl⟩
    have HINN := Hd.mk (HIN.out.step HI.out.al HI.out.dep HB2.out HNE.out k11 k4 hq)
    have HQS := Hd.mk hq
    have HK4 := Hd.mk k4
    have HK11 := Hd.mk k11
    have HSM2 : Hd (Small (⟨(mk + 1), sh, dep, deep, t, ow, cl, ps.map (·.p), rs⟩ : Ma)) := ⟨⟨HSM.out.t, HSM.out.o, HSM.out.c, HSM.out.p, HSM.out.r, HSM.out.u, by show mk + 1 ≤ 1048575; omega, HSM.out.dp⟩⟩
    have HPAR : Hd (df = true → ∃ l p, loc = some l ∧ par = some p) := ⟨fun hdf => by
      obtain ⟨p, r', e⟩ := HI.out.par _ _ _ HIN.out.p hdf
      have h1 := HIN.out.head
      rw [e] at h1
      have h2 := HLOC.out
      rw [← HIN.out.sm, ← h1] at h2
      cases loc with
      | none => cases h2
      | some l => exact ⟨l, p, rfl, h1.symm⟩⟩
    have HPA : Hd (∀ p, par = some p → p.en = 2 → 0 ≤ p.pa ∧ p.pa.toNat < (ps.map (·.p)).length) := ⟨fun p hp => (HI.out.fr _ _ HIN.out.p p (by rw [hp]; simp [putHead])).1.pa⟩
    clear hq k4 k11
    go_wp2_with fail
    refine (@impl_step (pts w1.heap.size (.cells #[.int .i64 sk, .int .i64 sa, .int .i64 sb] 141 (0, 0)) * S) _ gm (some ⟨b0, off, none⟩) n c fuel (⟨(mk + 1), sh, dep, deep, t, ow, cl, ps.map (·.p), rs⟩ : Ma) gf loc (⟨id, (kf : Int), r.l, rn, df, ct, lv, en, pa⟩ : Fr) par (MF.shut ⟨A1, c1, A2, c2, A3, c3, A4, c4, A5, c5, bm, ps⟩ ⟨r, A0, c0⟩ rfl rfl (SepI.cast (Ent.sep (S := _) (T := pts gf (.cells #[Value.int .i64 (id : Int), .int .i64 (kf : Int), .int .i64 r.a, .int .i64 r.b, .int .i64 r.c, .int .i64 r.d, .slice A0 rn.length c0, pvOf loc, .bool df, .bool ct, .bool lv, .int .i64 en, .int .i64 pa] 154 (0, 0)) * (Row 191 2 (.slice A0 rn.length c0) rn.length (cPr rn) * (pts gm (.cells (#[Value.slice (some ⟨b0, off, none⟩) n c, .int .i64 fuel, .int .i64 (mk : Int), .int .i64 sh, .int .i64 (dep : Int), .int .i64 (deep : Int), .slice A1 t.length c1, .slice A2 ow.length c2, .slice A3 cl.length c3, .slice A4 ps.length c4, .slice A5 rs.length c5, .map (some bm), .int .i64 0, .int .i64 0, .slice none 0 0, .int .i64 0].setIfInBounds 2 (.int .i64 ((mk : Int) + 1))) 98 (0, 0)) * (Row 75 3 (.slice A1 t.length c1) t.length (cEvs t) * (Row 3 1 (.slice A2 ow.length c2) ow.length (ints ow) * (Row 92 6 (.slice A3 cl.length c3) cl.length (cCis cl) * (Row 78 9 (.slice A4 ps.length c4) ps.length (cPvs ps) * (stars (ps.map unH) * (Row 90 3 (.slice A5 rs.length c5) rs.length (cRcs rs) * (MapH bm (mk + 1) * (ParH loc par * (pts w1.heap.size (.cells #[.int .i64 sk, .int .i64 sa, .int .i64 sb] 141 (0, 0)) * (S))))))))))))) inferInstance inferInstance) (by rfl))) ⟨sk, sa, sb⟩ L.length HOK.out HK4.out HK11.out HPAR.out HSM2.out HFO.out.2 HFO.out.1.regs HPA.out).mono ?_
    intro e w4 hP
    rw [HQS.out] at hP
    obtain ⟨m2, g, par2, b⟩ := q
    obtain ⟨rfl, HP⟩ := hP
    have HS4 := HP.sep
    have HE4 := HP.ext
    clear HP HQS
    simp only at HS4
    cases b
    · obtain ⟨k', hk', HIN'⟩ := HINN.out.2 rfl
      have HIN2 := Hd.mk HIN'
      clear HIN' HINN
      go_wp2
      go_roundg k'
      case measure => exact hk'
      case rel => exact ⟨m2, g, par2, at_ + 1, rfl, inferInstance, HIN2, Ent.sep (S := _) inferInstance inferInstance⟩
    · have HQ := Hd.mk (HINN.out.1 rfl)
      clear HINN
      go_wp2
      first | go_end0 | refine bodyPost_ret (results_none rfl _ _ _) rfl ?_
      rw [HQ.out]
      exact ⟨rfl, Post.mk' (Ent.sep (S := _) (T := Mach gm (some ⟨b0, off, none⟩) n c fuel m2 * (FrH gf (pvOf loc) g * (ParH loc par2 * S))) inferInstance inferInstance) inferInstance⟩
end Go.Proofs.Ytobikkdnalnllaa
