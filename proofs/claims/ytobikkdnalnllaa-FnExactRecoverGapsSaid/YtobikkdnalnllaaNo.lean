/- The reference's machine: a whole call. Conditions: numbers and lengths within bounds. -/
import Derived.Test.YtobikkdnalnllaaQa
import Derived.Test.YtobikkdnalnllaaNn
namespace Go.Proofs.Ytobikkdnalnllaa
open Go.RowKit SL
attribute [local go_sem] cell_blk frozen_blk lt_blk cell_at frozen_row lt_row
set_option linter.unusedVariables false
set_option linter.unusedSimpArgs false


theorem spec_most2 (a b : Int) (w : World) : Calls Try.prog 115 #[.int .i64 a, .int .i64 b] w fun e w' => e = .returned (.int .i64 (max a b)) ∧ w' = w := by
  by_cases h : b < a
  · go_enter Try.func115, Try.ntmps115
    go_wp2
    go_ret
    exact ⟨ret_i (by omega), rfl⟩
  · go_enter Try.func115, Try.ntmps115
    go_wp2
    go_ret
    exact ⟨ret_i (by omega), rfl⟩

set_option maxRecDepth 100000 in
set_option maxRecDepth 100000 in
set_option maxHeartbeats 16000000 in
theorem spec_l2CallS (L : List (List St)) (hL : ProgOk L) (fu d : Nat) (hfu : fu ≤ 100000) (dep0 : Int) (hdep : 1 ≤ dep0 ∧ dep0 ≤ 8) (A : Option Addr) (n c0 : Nat) (bs : List Bd) (hbs : bs.map (·.l) = L) (hn : bs.length = n) (hG : CallG L fu (callS L fu d)) (hC : CallC A n c0 bs (fu : Int) (dep0 + 1) (PreD L fu (dep0 + 1)) (callS L fu d)) :
    CallC A n c0 bs (fu : Int) dep0 (PreD L fu dep0) (callS L fu (d + 1)) := by
  intro S w vt vs m c r rdA bd H hr hdf hdp hpre
  rw [callS_eq]
  obtain ⟨sp, sh, mk, dp, t, sn⟩ := m
  obtain ⟨f, dep, rg, dfs, ki, va, lv, df, pg, pa, rc, ou⟩ := c
  simp only at hr hdf hdp H
  subst hr hdf hdp
  obtain rfl : sp = false := hpre.sp
  have hfn := hpre.sf.fn
  have htr := hpre.tr
  have hmk := hpre.sm.made
  simp only [FnOk] at hfn htr hmk
  obtain ⟨kf, rfl⟩ : ∃ kf : Nat, f = kf := ⟨f.toNat, by omega⟩
  have hkf : kf < bs.length := by rw [← hbs, List.length_map] at hfn; omega
  obtain ⟨x, hx⟩ := get_ex hkf
  obtain ⟨b0, off, rfl⟩ := rdA.addr H.right.right (j := kf) (by rw [cBds_len]; exact hkf)
  have cA := rdA.cell (cBds_get hx)
  have rx := bd.rd x (List.mem_of_getElem? hx)
  have sx := bd.small x (List.mem_of_getElem? hx)
  have HBO : Hd (bodyOf L (kf : Int) = x.l) := ⟨by unfold bodyOf; rw [← hbs, List.getD_eq_getElem?_getD, List.getElem?_map]; simp [hx]⟩
  obtain ⟨xp, xc, xl⟩ := x
  simp only at cA rx sx HBO
  clear hx
  obtain ⟨nx, hnx⟩ : ∃ nx, nx = xl.length := ⟨_, rfl⟩
  have HNX := Hd.mk hnx
  rw [← hnx] at cA sx
  have hkn : (kf : Int) < n := by omega
  have HST := Hd.mk (InLoop.start (fuel := fu) (call := callS L fu d) hpre rfl)
  have HTR : Hd ((t.length : Int) ≤ 3 * (mk : Nat) + 2 * dep) := ⟨htr⟩
  have ht : t.length ≤ 1048576 := by omega
  have HLL := Hd.mk hL
  have HGG := Hd.mk hG
  have HCC := Hd.mk hC
  have HN := Hd.mk hn
  have HBS := Hd.mk hbs
  obtain ⟨R, hR⟩ : ∃ R, R = tailS (callS L fu d) (loopS (callS L fu d) L fu (fu + 1) (startS (⟨false, sh, mk, dp, t, sn⟩ : SM) (⟨(kf : Int), dep, r.l, [], ki, va, lv, df, pg, pa, rc, ou⟩ : SF)) { (⟨(kf : Int), dep, r.l, [], ki, va, lv, df, pg, pa, rc, ou⟩ : SF) with kind := 1 } 0) := ⟨_, rfl⟩
  show Calls _ _ _ _ (CallP _ _ _ (tailS (callS L fu d) (loopS (callS L fu d) L fu (fu + 1) (startS (⟨false, sh, mk, dp, t, sn⟩ : SM) (⟨(kf : Int), dep, r.l, [], ki, va, lv, df, pg, pa, rc, ou⟩ : SF)) { (⟨(kf : Int), dep, r.l, [], ki, va, lv, df, pg, pa, rc, ou⟩ : SF) with kind := 1 } 0)) _)
  rw [← hR]
  obtain ⟨M0, hM0⟩ : ∃ M0, M0 = (⟨false, sh, mk, dp, t, sn⟩ : SM) := ⟨_, rfl⟩
  have HM0 : Hd ((M0.trace.length : Int) ≤ 3 * (M0.made : Nat) + 2 * dep) := ⟨by rw [hM0]; exact HTR.out⟩
  have HST2 : Hd (InLoop L fu (callS L fu d) R M0 (fu + 1) (startS (⟨false, sh, mk, dp, t, sn⟩ : SM) (⟨(kf : Int), dep, r.l, [], ki, va, lv, df, pg, pa, rc, ou⟩ : SF)) { (⟨(kf : Int), dep, r.l, [], ki, va, lv, df, pg, pa, rc, ou⟩ : SF) with kind := 1 } 0) := ⟨by rw [hR, hM0]; exact HST.out⟩
  obtain ⟨ra, rb, rc_, rd_⟩ := r
  obtain ⟨KD, HKD⟩ : ∃ z : Int, Hd (z = if df then 3 else 1) := ⟨_, ⟨rfl⟩⟩
  have HST3 : Hd (InLoop L fu (callS L fu d) R M0 (fu + 1) (⟨false, sh, mk, max dp dep, t ++ [⟨KD, kf, ra⟩], sn⟩ : SM) (⟨(kf : Int), dep, (⟨ra, rb, rc_, rd_⟩ : R4s).l, [], 1, va, lv, df, pg, pa, rc, ou⟩ : SF) 0) := ⟨by rw [HKD.out]; exact HST2.out⟩
  clear HST HST2 hpre hfn htr hR hM0 hL hG hC hn hbs hmk hnx HTR hkf
  have H1 := Row.nil0 H 112 2
  clear H
  obtain ⟨A1, c1, rfl, hc1, hc1'⟩ := Row.form H1.right
  obtain ⟨A2, c2, rfl, hc2, hc2'⟩ := Row.form H1.right.right
  clear hc1 hc1' hc2 hc2'
  go_enter Try.func103, Try.ntmps103
  obtain ⟨g0, hg0⟩ : ∃ g0, g0 = w.heap.size := ⟨_, rfl⟩
  go_upto_if 22 with (first | (go_at_call 115; refine (spec_most2 _ _ _).mono ?_; rintro e w' ⟨rfl, rfl⟩))
  go_cut [6] (fun v6 wx => v6 = .int .i64 KD ∧ ExtI w wx ∧ SepI wx (pts (w.heap.size + 1 + 1 + 1) (.cells #[Value.int .i64 0, .int .i64 0, .int .i64 0, .int .i64 0, .int .i64 0, .int .i64 0, .slice none 0 0, .int .i64 0, .int .i64 0, .bool false, .bool false, .bool false, .int .i64 0, .bool false, .int .i64 0] 123 (0, 0)) * (pts (w.heap.size + 1 + 1) (.cells #[Value.slice none 0 0, .int .i64 0, .bool false, .int .i64 0, .int .i64 0, .int .i64 0, .slice none 0 0, .slice none 0 0] 121 (0, 0)) * (pts (w.heap.size + 1) (.cells #[Value.int .i64 (kf : Int), .int .i64 dep, .int .i64 (ra), .int .i64 (rb), .int .i64 (rc_), .int .i64 (rd_), .slice none 0 0, .int .i64 (ki), .int .i64 (va), .bool lv, .bool df, .bool pg, .int .i64 pa, .bool rc, .int .i64 ou] 123 (0, 0)) * (pts (w.heap.size) (.cells #[Value.slice (some ⟨b0, off, none⟩) n c0, .int .i64 (fu : Int), .bool false, .int .i64 sh, .int .i64 (mk : Int), .int .i64 (max dp dep), .slice A1 t.length c1, .slice A2 sn.length c2] 121 (0, 0)) * (Row 112 2 (.slice none 0 0) 0 [] * (Row 75 3 (.slice A1 t.length c1) t.length (cEvs t) * (Row 112 2 (.slice A2 sn.length c2) sn.length (cPr sn) * (S)))))))))
  case first =>
    cases df
    · obtain rfl : KD = 1 := by rw [HKD.out]; rfl
      go_wp2
      go_meet
      exact ⟨rfl, inferInstance, SepI.cast (S := _) inferInstance (by rfl)⟩
    · obtain rfl : KD = 3 := by rw [HKD.out]; rfl
      go_wp2
      go_meet
      exact ⟨rfl, inferInstance, SepI.cast (S := _) inferInstance (by rfl)⟩
  case rest =>
  obtain ⟨rfl, HEc, HSc⟩ := hcut
  obtain ⟨t4, HT4⟩ : ∃ q : List Ev, Hd (q = t ++ [(⟨KD, (kf : Int), ra⟩ : Ev)]) := ⟨_, ⟨rfl⟩⟩
  have HST4 := HST3.out
  rw [← HT4.out] at HST4
  have HST5 := Hd.mk HST4
  clear HST3 HST4
  go_wp2_with fail
  refine (@spec_l2Tell _ _ (some ⟨b0, off, none⟩) n c0 (.slice A1 t.length c1) A2 sn.length c2 t (SepI.pickR (S := _) inferInstance inferInstance) ht (fu : Int) sh mk (max dp dep) false KD kf ra).mono ?_
  rintro e w4 ⟨vt4, rfl, HP⟩
  rw [← HT4.out] at HP
  have HS4 := HP.sep
  have HE4 := HP.ext
  clear HP
  obtain ⟨A4, c4, rfl, hc4, hc4'⟩ := Row.form HS4
  clear hc4 hc4'
  simp only []
  rename_i hK
  refine hK _ _ ?_
  refine ev_store rfl 121 _ _ rfl w.heap.size #[Value.slice (some ⟨b0, off, none⟩) n c0, .int .i64 (fu : Int), .bool false, .int .i64 sh, .int .i64 (mk : Int), .int .i64 (max dp dep), .slice A4 t4.length c4, .slice A2 sn.length c2] rfl rfl info_sm (by rfl) (by simp [Value.oneCell']) ?_
  intro w5 HS5 HE5
  clear HS4 hK HSc H1
  clear ht HT4
  go_upto_block 0 with fail
  go_cut [] (fun wr => ∃ (sh : Int) (mk : Nat) (dp : Int) (t : List Ev) (sn : List (Int × Int)) (r : R4s) (dfs : List (Int × Int)) (ki va : Int) (lv df pg : Bool) (pa : Int) (rc : Bool) (ou : Int) (A4 : Option Addr) (c4 : Nat) (A5 : Option Addr) (c5 : Nat) (A3 : Option Addr) (c3 : Nat), ExtI w wr ∧ Hd (InRest L fu (callS L fu d) R M0 (⟨false, sh, mk, dp, t, sn⟩ : SM) (⟨(kf : Int), dep, r.l, dfs, ki, va, lv, df, pg, pa, rc, ou⟩ : SF)) ∧ SepI wr (pts (w.heap.size + 1 + 1 + 1) (.cells #[Value.int .i64 0, .int .i64 0, .int .i64 0, .int .i64 0, .int .i64 0, .int .i64 0, .slice none 0 0, .int .i64 0, .int .i64 0, .bool false, .bool false, .bool false, .int .i64 0, .bool false, .int .i64 0] 123 (0, 0)) * (pts (w.heap.size + 1 + 1) (.cells #[Value.slice none 0 0, .int .i64 0, .bool false, .int .i64 0, .int .i64 0, .int .i64 0, .slice none 0 0, .slice none 0 0] 121 (0, 0)) * (pts (w.heap.size + 1) (.cells #[Value.int .i64 (kf : Int), .int .i64 dep, .int .i64 (r.a), .int .i64 (r.b), .int .i64 (r.c), .int .i64 (r.d), .slice A3 dfs.length c3, .int .i64 (ki), .int .i64 (va), .bool lv, .bool df, .bool pg, .int .i64 pa, .bool rc, .int .i64 ou] 123 (0, 0)) * (pts (w.heap.size) (.cells #[Value.slice (some ⟨b0, off, none⟩) n c0, .int .i64 (fu : Int), .bool false, .int .i64 sh, .int .i64 (mk : Int), .int .i64 dp, .slice A4 t.length c4, .slice A5 sn.length c5] 121 (0, 0)) * (Row 112 2 (.slice A3 dfs.length c3) dfs.length (cPr dfs) * (Row 75 3 (.slice A4 t.length c4) t.length (cEvs t) * (Row 112 2 (.slice A5 sn.length c5) sn.length (cPr sn) * (S)))))))))
  case first =>
    go_wp2_with fail
    go_loopg [8] (fu + 1) (fun gk v8 wr => ∃ (sh : Int) (mk : Nat) (dp : Int) (t : List Ev) (sn : List (Int × Int)) (r : R4s) (dfs : List (Int × Int)) (ki va : Int) (lv df pg : Bool) (pa : Int) (rc : Bool) (ou : Int) (A4 : Option Addr) (c4 : Nat) (A5 : Option Addr) (c5 : Nat) (A3 : Option Addr) (c3 : Nat) (at_ : Int), v8 = .int .i64 at_ ∧ ExtI w wr ∧ Hd (InLoop L fu (callS L fu d) R M0 gk (⟨false, sh, mk, dp, t, sn⟩ : SM) (⟨(kf : Int), dep, r.l, dfs, ki, va, lv, df, pg, pa, rc, ou⟩ : SF) at_) ∧ SepI wr (pts (w.heap.size + 1 + 1 + 1) (.cells #[Value.int .i64 0, .int .i64 0, .int .i64 0, .int .i64 0, .int .i64 0, .int .i64 0, .slice none 0 0, .int .i64 0, .int .i64 0, .bool false, .bool false, .bool false, .int .i64 0, .bool false, .int .i64 0] 123 (0, 0)) * (pts (w.heap.size + 1 + 1) (.cells #[Value.slice none 0 0, .int .i64 0, .bool false, .int .i64 0, .int .i64 0, .int .i64 0, .slice none 0 0, .slice none 0 0] 121 (0, 0)) * (pts (w.heap.size + 1) (.cells #[Value.int .i64 (kf : Int), .int .i64 dep, .int .i64 (r.a), .int .i64 (r.b), .int .i64 (r.c), .int .i64 (r.d), .slice A3 dfs.length c3, .int .i64 (ki), .int .i64 (va), .bool lv, .bool df, .bool pg, .int .i64 pa, .bool rc, .int .i64 ou] 123 (0, 0)) * (pts (w.heap.size) (.cells #[Value.slice (some ⟨b0, off, none⟩) n c0, .int .i64 (fu : Int), .bool false, .int .i64 sh, .int .i64 (mk : Int), .int .i64 dp, .slice A4 t.length c4, .slice A5 sn.length c5] 121 (0, 0)) * (Row 112 2 (.slice A3 dfs.length c3) dfs.length (cPr dfs) * (Row 75 3 (.slice A4 t.length c4) t.length (cEvs t) * (Row 112 2 (.slice A5 sn.length c5) sn.length (cPr sn) * (S)))))))))
    case atStart =>
      exact ⟨sh, mk, max dp dep, t4, sn, ⟨ra, rb, rc_, rd_⟩, [], 1, va, lv, df, pg, pa, rc, ou, A4, c4, A2, c2, none, 0, 0, rfl, inferInstance, HST5, SepI.cast (Ent.sep (S := _) (T := pts (w.heap.size + 1 + 1 + 1) (.cells #[Value.int .i64 0, .int .i64 0, .int .i64 0, .int .i64 0, .int .i64 0, .int .i64 0, .slice none 0 0, .int .i64 0, .int .i64 0, .bool false, .bool false, .bool false, .int .i64 0, .bool false, .int .i64 0] 123 (0, 0)) * (pts (w.heap.size + 1 + 1) (.cells #[Value.slice none 0 0, .int .i64 0, .bool false, .int .i64 0, .int .i64 0, .int .i64 0, .slice none 0 0, .slice none 0 0] 121 (0, 0)) * (pts (w.heap.size + 1) (.cells (#[Value.int .i64 (kf : Int), .int .i64 dep, .int .i64 (ra), .int .i64 (rb), .int .i64 (rc_), .int .i64 (rd_), .slice none 0 0, .int .i64 (ki), .int .i64 (va), .bool lv, .bool df, .bool pg, .int .i64 pa, .bool rc, .int .i64 ou].setIfInBounds 7 (.int .i64 1)) 123 (0, 0)) * (pts (w.heap.size) (.cells #[Value.slice (some ⟨b0, off, none⟩) n c0, .int .i64 (fu : Int), .bool false, .int .i64 sh, .int .i64 (mk : Int), .int .i64 (max dp dep), .slice A4 t4.length c4, .slice A2 sn.length c2] 121 (0, 0)) * (Row 112 2 (.slice none 0 0) 0 [] * (Row 75 3 (.slice A4 t4.length c4) t4.length (cEvs t4) * (Row 112 2 (.slice A2 sn.length c2) sn.length (cPr sn) * (S)))))))) inferInstance inferInstance) (by rfl)⟩
    case round =>
    obtain ⟨sh, mk, dp, t, sn, r, dfs, ki, va, lv, df, pg, pa, rc, ou, A4, c4, A5, c5, A3, c3, at_, rfl, HX, HIN, HSR⟩ := hrel
    clear HST5 HS5 HE5 HE4 HEc
    have ha2 := HIN.out.at2
    by_cases ha : 0 ≤ at_
    rotate_left
    · have ha' : decide (at_ ≥ 0) = false := by simp; omega
      go_wp2
      go_meet
      exact ⟨sh, mk, dp, t, sn, r, dfs, ki, va, lv, df, pg, pa, rc, ou, A4, c4, A5, c5, A3, c3, inferInstance, ⟨HIN.out.leave (.inl (by omega))⟩, inferInstance⟩
    obtain ⟨ka, rfl⟩ : ∃ ka : Nat, at_ = ka := ⟨at_.toNat, by omega⟩
    by_cases hlt : ka < nx
    rotate_left
    · have hlt' : ¬ (ka : Int) < nx := by omega
      go_wp2
      go_meet
      exact ⟨sh, mk, dp, t, sn, r, dfs, ki, va, lv, df, pg, pa, rc, ou, A4, c4, A5, c5, A3, c3, inferInstance, ⟨HIN.out.leave (.inr (by
        show (bodyOf L (kf : Int))[((ka : Nat) : Int).toNat]? = none
        rw [HBO.out, Int.toNat_natCast]; exact List.getElem?_eq_none (by have := HNX.out; omega)))⟩, inferInstance⟩
    have hltI : (ka : Int) < nx := by omega
    obtain ⟨s, hs⟩ := get_ex (xs := xl) (k := ka) (by rw [← HNX.out]; exact hlt)
    have HBS2 : Hd ((bodyOf L (kf : Int))[((ka : Nat) : Int).toNat]? = some s) := ⟨by rw [HBO.out, Int.toNat_natCast]; exact hs⟩
    have HBL : Hd ((bodyOf L (kf : Int)).length ≤ 1048576) := ⟨by rw [HBO.out, ← HNX.out]; exact sx⟩
    by_cases hm : mk = fu
    · have HQ : Hd (R = ((⟨true, sh, mk, dp, t, sn⟩ : SM), (⟨(kf : Int), dep, r.l, dfs, ki, va, lv, df, pg, pa, rc, ou⟩ : SF))) := ⟨HIN.out.stuck (by omega) HBS2.out hm⟩
      have hmI : ((mk : Int) == (fu : Int)) = true := by simp; omega
      clear hm hs
      go_wp2
      refine wp_region_T 3 (by kernel_rfl) (by kernel_rfl) (fun w' => w'.cell? ⟨w.heap.size, 0, none⟩ = some (.slice (some ⟨b0, off, none⟩) n c0) ∧ w'.cell? ⟨w.heap.size, 1, none⟩ = some (.int .i64 (fu : Int)) ∧ w'.cell? ⟨w.heap.size, 2, none⟩ = some (.bool true) ∧ w'.cell? ⟨w.heap.size, 3, none⟩ = some (.int .i64 sh) ∧ w'.cell? ⟨w.heap.size, 4, none⟩ = some (.int .i64 (mk : Int)) ∧ w'.cell? ⟨w.heap.size, 5, none⟩ = some (.int .i64 dp) ∧ w'.cell? ⟨w.heap.size, 6, none⟩ = some (.slice A4 t.length c4) ∧ w'.cell? ⟨w.heap.size, 7, none⟩ = some (.slice A5 sn.length c5) ∧ w'.cell? ⟨w.heap.size + 1, 0, none⟩ = some (.int .i64 (kf : Int)) ∧ w'.cell? ⟨w.heap.size + 1, 1, none⟩ = some (.int .i64 dep) ∧ w'.cell? ⟨w.heap.size + 1, 2, none⟩ = some (.int .i64 (r.a)) ∧ w'.cell? ⟨w.heap.size + 1, 3, none⟩ = some (.int .i64 (r.b)) ∧ w'.cell? ⟨w.heap.size + 1, 4, none⟩ = some (.int .i64 (r.c)) ∧ w'.cell? ⟨w.heap.size + 1, 5, none⟩ = some (.int .i64 (r.d)) ∧ w'.cell? ⟨w.heap.size + 1, 6, none⟩ = some (.slice A3 dfs.length c3) ∧ w'.cell? ⟨w.heap.size + 1, 7, none⟩ = some (.int .i64 (ki)) ∧ w'.cell? ⟨w.heap.size + 1, 8, none⟩ = some (.int .i64 (va)) ∧ w'.cell? ⟨w.heap.size + 1, 9, none⟩ = some (.bool lv) ∧ w'.cell? ⟨w.heap.size + 1, 10, none⟩ = some (.bool df) ∧ w'.cell? ⟨w.heap.size + 1, 11, none⟩ = some (.bool pg) ∧ w'.cell? ⟨w.heap.size + 1, 12, none⟩ = some (.int .i64 pa) ∧ w'.cell? ⟨w.heap.size + 1, 13, none⟩ = some (.bool rc) ∧ w'.cell? ⟨w.heap.size + 1, 14, none⟩ = some (.int .i64 ou)) ⟨cb, cb, cb, cb, cb, cb, cb, cb, cb, cb, cb, cb, cb, cb, cb, cb, cb, cb, cb, cb, cb, cb, cb⟩ (fun hHeld => ?_)
      refine wpAnyT_takeL (i := 0) (v := ?_) rfl (by as_aux_lemma => kernel_rfl) (by as_aux_lemma => kernel_rfl) (by as_aux_lemma => kernel_rfl) (by as_aux_lemma => kernel_rfl) (by as_aux_lemma => kernel_rfl) (fun _ _ _ h => h) (Or.inl ⟨by rfl, ?_⟩) (by assumption) ?_
      rotate_left
      · (intro w hSw; (try dsimp only at hSw); go_simp; try with_reducible rfl)
      try simp only [Act.put, List.setIfInBounds_toArray, List.set_cons_zero, List.set_cons_succ]
      refine wpAnyT_takeL (i := 1) (v := ?_) rfl (by as_aux_lemma => kernel_rfl) (by as_aux_lemma => kernel_rfl) (by as_aux_lemma => kernel_rfl) (by as_aux_lemma => kernel_rfl) (by as_aux_lemma => kernel_rfl) (fun _ _ _ h => h) (Or.inl ⟨by rfl, ?_⟩) (by assumption) ?_
      rotate_left
      · (intro w hSw; (try dsimp only at hSw); go_simp; try with_reducible rfl)
      try simp only [Act.put, List.setIfInBounds_toArray, List.set_cons_zero, List.set_cons_succ]
      refine wpAnyT_one (i := 2) (by kernel_rfl) rfl (by kernel_rfl) (fun KK hKK => ?_)
      refine st_list rfl (ev_store rfl 121 _ _ rfl (w.heap.size + 1 + 1) #[Value.slice (some ⟨b0, off, none⟩) n c0, .int .i64 (fu : Int), .bool true, .int .i64 sh, .int .i64 (mk : Int), .int .i64 dp, .slice A4 t.length c4, .slice A5 sn.length c5] rfl rfl info_sm (by rfl) (by simp [Value.oneCell']) ?_)
      intro w8 HS8 HE8
      refine ⟨rfl, ?_⟩
      refine hKK.out _ _ ⟨cb, cb, cb, cb, cb, cb, cb, cb, cb, cb, cb, cb, cb, cb, cb, cb, cb, cb, cb, cb, cb, cb, cb⟩ (fun hHeld => ?_)
      clear hKK KK
      try simp only [Act.put, List.setIfInBounds_toArray, List.set_cons_zero, List.set_cons_succ]
      refine wpAnyT_done (by kernel_rfl) ?_
      refine ev_store rfl 123 _ _ rfl (w.heap.size + 1 + 1 + 1) #[Value.int .i64 (kf : Int), .int .i64 dep, .int .i64 (r.a), .int .i64 (r.b), .int .i64 (r.c), .int .i64 (r.d), .slice A3 dfs.length c3, .int .i64 (ki), .int .i64 (va), .bool lv, .bool df, .bool pg, .int .i64 pa, .bool rc, .int .i64 ou] rfl rfl info_sf (by rfl) (by simp [Value.oneCell']) ?_
      intro w9 HS9 HE9
      go_wp2
      refine bodyPost_ret (v := .tuple #[mV (.slice (some ⟨b0, off, none⟩) n c0) (.slice A4 t.length c4) (.slice A5 sn.length c5) (fu : Int) (⟨true, sh, mk, dp, t, sn⟩ : SM), fV (⟨(kf : Int), dep, r.l, dfs, ki, va, lv, df, pg, pa, rc, ou⟩ : SF) r (.slice A3 dfs.length c3)]) (by simp [results, Try.results103, go_sem]) rfl ?_
      exact CallP.of (m' := (⟨true, sh, mk, dp, t, sn⟩ : SM)) (c' := (⟨(kf : Int), dep, r.l, dfs, ki, va, lv, df, pg, pa, rc, ou⟩ : SF)) (r := r) (vt := .slice A4 t.length c4) (vs := .slice A5 sn.length c5) (vd := .slice A3 dfs.length c3) (k := dfs.length) HQ.out rfl rfl (Post.mk' (Ent.sep (S := _) (T := Row 75 3 (.slice A4 t.length c4) t.length (cEvs t) * (Row 112 2 (.slice A5 sn.length c5) sn.length (cPr sn) * (Row 112 2 (.slice A3 dfs.length c3) dfs.length (cPr dfs) * (S)))) inferInstance inferInstance) inferInstance)
    have hmI : ((mk : Int) == (fu : Int)) = false := beq_eq_false_iff_ne.2 (by omega)
    have hmf : mk ≠ fu := hm
    have hmk := HIN.out.sm.made
    have hwt := HIN.out.wt.grow
    simp only at hmk hwt
    have h0 := HM0.out
    have ht : t.length ≤ 1048576 := by omega
    have hdl : dfs.length ≤ 1048576 := by omega
    have hsn := HIN.out.sm.seen
    simp only at hsn
    have hsn' : sn.length ≤ 1048576 := by omega
    have hwm : IntKind.i64.wrap ((mk : Int) + 1) = (mk : Int) + 1 := IntWalk.i64_in _ (by omega)
    have hat : (0 : Int) ≤ ka ∧ (ka : Int) ≤ 1048576 := ⟨by omega, by omega⟩
    have hdep1 : 0 ≤ dep ∧ dep ≤ 1048576 := by omega
    obtain ⟨bx, ox, rfl⟩ := rx.addr (S := S) (w := wr) HSR.right.right.right.right.right.right.right (j := ka * 3) (by rw [cSts_len, ← HNX.out]; omega)
    have e1 := rx.cell (cSts_get hs).1
    have e2 := rx.cell (cSts_get hs).2.1
    have e3 := rx.cell (cSts_get hs).2.2
    rw [← Nat.add_assoc] at e2 e3
    have HOK := HLL.out _ _ (List.mem_of_getElem? HBS2.out)
    have HSG : Hd (StepG r s) := ⟨StepG.of HOK HIN.out.sf.regs⟩
    obtain ⟨sn5, HSN⟩ : ∃ q : List (Int × Int), Hd (q = sn ++ [((kf : Int), (ka : Int))]) := ⟨_, ⟨rfl⟩⟩
    have HL5 : Hd (sn.length + 1 = sn5.length) := ⟨by rw [HSN.out, List.length_append]; rfl⟩
    have HC5 : Hd (cPr sn ++ [.int .i64 (kf : Int), .int .i64 (ka : Int)] = cPr sn5) := ⟨by rw [HSN.out, cPr_snoc]⟩
    have HPI : Hd (s.k = 4 → PreD L fu (dep + 1) (⟨false, sh, mk + 1, dp, t, sn5⟩ : SM) (freshIn (⟨(kf : Int), dep, r.l, dfs, ki, va, lv, df, pg, pa, rc, ou⟩ : SF) s)) := ⟨fun k4 => by rw [HSN.out]; exact PreD.inner (at_ := (ka : Int)) HIN.out HM0.out hmf HOK k4⟩
    have HKE : Hd (((makeS (callS L fu d) (⟨false, sh, mk + 1, dp, t, sn5⟩ : SM) (⟨(kf : Int), dep, r.l, dfs, ki, va, lv, df, pg, pa, rc, ou⟩ : SF) ka s).2.1.f = (kf : Int)) ∧ (makeS (callS L fu d) (⟨false, sh, mk + 1, dp, t, sn5⟩ : SM) (⟨(kf : Int), dep, r.l, dfs, ki, va, lv, df, pg, pa, rc, ou⟩ : SF) ka s).2.1.depth = dep) := ⟨make_keeps _ _ _ _ _⟩
    have HQ1 : Hd (∀ {q : SM × SF × Int}, makeS (callS L fu d) (⟨false, sh, mk + 1, dp, t, sn5⟩ : SM) (⟨(kf : Int), dep, r.l, dfs, ki, va, lv, df, pg, pa, rc, ou⟩ : SF) ka s = q → makeS (callS L fu d) { (⟨false, sh, mk, dp, t, sn⟩ : SM) with made := (⟨false, sh, mk, dp, t, sn⟩ : SM).made + 1, seen := (⟨false, sh, mk, dp, t, sn⟩ : SM).seen ++ [((⟨(kf : Int), dep, r.l, dfs, ki, va, lv, df, pg, pa, rc, ou⟩ : SF).f, (ka : Int))] } (⟨(kf : Int), dep, r.l, dfs, ki, va, lv, df, pg, pa, rc, ou⟩ : SF) (ka : Int) s = q) := ⟨fun {q} h => by rw [← h, HSN.out]⟩
    clear hm hs ha ha2 hlt h0 hmk hwt hsn HOK
    as_aux_lemma =>
      go_wp2_with (at_builtin; go_must (refine ev_append (v := .slice A5 sn.length c5) rfl _ _ 51 rfl rfl 16 _ Try.underlying51 info_pr rfl (by decide) (by decide) wr.heap.size 1 1 rfl rfl (by simp [Value.oneCell']) (by omega) ?_); intro v9 w5 HS5 HE5; replace HS5 := Row.as HS5 HL5.out HC5.out; obtain ⟨A9, c9, rfl, hc9, hc9'⟩ := Row.form HS5; clear hc9 hc9')
      refine wp_region_T2 7 (by kernel_rfl) (by kernel_rfl) (fun w' => w'.cell? ⟨w.heap.size, 0, none⟩ = some (.slice (some ⟨b0, off, none⟩) n c0) ∧ w'.cell? ⟨w.heap.size, 1, none⟩ = some (.int .i64 (fu : Int)) ∧ w'.cell? ⟨w.heap.size, 2, none⟩ = some (.bool false) ∧ w'.cell? ⟨w.heap.size, 3, none⟩ = some (.int .i64 sh) ∧ w'.cell? ⟨w.heap.size, 4, none⟩ = some (.int .i64 ((mk : Int) + 1)) ∧ w'.cell? ⟨w.heap.size, 5, none⟩ = some (.int .i64 dp) ∧ w'.cell? ⟨w.heap.size, 6, none⟩ = some (.slice A4 t.length c4) ∧ w'.cell? ⟨w.heap.size, 7, none⟩ = some (.slice A9 sn5.length c9) ∧ w'.cell? ⟨w.heap.size + 1, 0, none⟩ = some (.int .i64 (kf : Int)) ∧ w'.cell? ⟨w.heap.size + 1, 1, none⟩ = some (.int .i64 dep) ∧ w'.cell? ⟨w.heap.size + 1, 2, none⟩ = some (.int .i64 (r.a)) ∧ w'.cell? ⟨w.heap.size + 1, 3, none⟩ = some (.int .i64 (r.b)) ∧ w'.cell? ⟨w.heap.size + 1, 4, none⟩ = some (.int .i64 (r.c)) ∧ w'.cell? ⟨w.heap.size + 1, 5, none⟩ = some (.int .i64 (r.d)) ∧ w'.cell? ⟨w.heap.size + 1, 6, none⟩ = some (.slice A3 dfs.length c3) ∧ w'.cell? ⟨w.heap.size + 1, 7, none⟩ = some (.int .i64 (ki)) ∧ w'.cell? ⟨w.heap.size + 1, 8, none⟩ = some (.int .i64 (va)) ∧ w'.cell? ⟨w.heap.size + 1, 9, none⟩ = some (.bool lv) ∧ w'.cell? ⟨w.heap.size + 1, 10, none⟩ = some (.bool df) ∧ w'.cell? ⟨w.heap.size + 1, 11, none⟩ = some (.bool pg) ∧ w'.cell? ⟨w.heap.size + 1, 12, none⟩ = some (.int .i64 pa) ∧ w'.cell? ⟨w.heap.size + 1, 13, none⟩ = some (.bool rc) ∧ w'.cell? ⟨w.heap.size + 1, 14, none⟩ = some (.int .i64 ou) ∧ w'.cell? ⟨bx, ox + ka * 3, none⟩ = some (.int .i64 s.k) ∧ w'.cell? ⟨bx, ox + ka * 3 + 1, none⟩ = some (.int .i64 s.a) ∧ w'.cell? ⟨bx, ox + ka * 3 + 1 + 1, none⟩ = some (.int .i64 s.b)) ⟨cb, cb, cb, cb, cb, cb, cb, cb, cb, cb, cb, cb, cb, cb, cb, cb, cb, cb, cb, cb, cb, cb, cb, cell_at _ _ _ _ _, cell_at _ _ _ _ _, cell_at _ _ _ _ _⟩ (fun hHeld => ?_)
      refine wpAnyT_takeL2 (i := 0) (v := ?_) rfl (by as_aux_lemma => kernel_rfl) (by as_aux_lemma => kernel_rfl) (by as_aux_lemma => kernel_rfl) (by as_aux_lemma => kernel_rfl) (by as_aux_lemma => kernel_rfl) (fun _ _ _ h => h) (Or.inl ⟨by rfl, ?_⟩) (by assumption) ?_
      rotate_left
      · (intro w hSw; (try dsimp only at hSw); go_simp; try with_reducible rfl)
      try simp only [Act.put, List.setIfInBounds_toArray, List.set_cons_zero, List.set_cons_succ]
      refine wpAnyT_takeL2 (i := 1) (v := ?_) rfl (by as_aux_lemma => kernel_rfl) (by as_aux_lemma => kernel_rfl) (by as_aux_lemma => kernel_rfl) (by as_aux_lemma => kernel_rfl) (by as_aux_lemma => kernel_rfl) (fun _ _ _ h => h) (Or.inl ⟨by rfl, ?_⟩) (by assumption) ?_
      rotate_left
      · (intro w hSw; (try dsimp only at hSw); go_simp; try with_reducible rfl)
      try simp only [Act.put, List.setIfInBounds_toArray, List.set_cons_zero, List.set_cons_succ]
      refine wpAnyT_takeL2 (i := 2) (v := ?_) rfl (by as_aux_lemma => kernel_rfl) (by as_aux_lemma => kernel_rfl) (by as_aux_lemma => kernel_rfl) (by as_aux_lemma => kernel_rfl) (by as_aux_lemma => kernel_rfl) (fun _ _ _ h => h) (Or.inl ⟨by rfl, ?_⟩) (by assumption) ?_
      rotate_left
      · (intro w hSw; (try dsimp only at hSw); go_simp; try with_reducible rfl)
      try simp only [Act.put, List.setIfInBounds_toArray, List.set_cons_zero, List.set_cons_succ]
      refine wpAnyT_takeL2 (i := 3) (v := ?_) rfl (by as_aux_lemma => kernel_rfl) (by as_aux_lemma => kernel_rfl) (by as_aux_lemma => kernel_rfl) (by as_aux_lemma => kernel_rfl) (by as_aux_lemma => kernel_rfl) (fun _ _ _ h => h) (Or.inl ⟨by rfl, ?_⟩) (by assumption) ?_
      rotate_left
      · (intro w hSw; (try dsimp only at hSw); go_simp; try with_reducible rfl)
      try simp only [Act.put, List.setIfInBounds_toArray, List.set_cons_zero, List.set_cons_succ]
      refine wpAnyT_takeL2 (i := 4) (v := ?_) rfl (by as_aux_lemma => kernel_rfl) (by as_aux_lemma => kernel_rfl) (by as_aux_lemma => kernel_rfl) (by as_aux_lemma => kernel_rfl) (by as_aux_lemma => kernel_rfl) (fun _ _ _ h => h) (Or.inl ⟨by rfl, ?_⟩) (by assumption) ?_
      rotate_left
      · (intro w hSw; (try dsimp only at hSw); go_simp; try with_reducible rfl)
      try simp only [Act.put, List.setIfInBounds_toArray, List.set_cons_zero, List.set_cons_succ]
      refine wpAnyT_takeL2 (i := 5) (v := ?_) rfl (by as_aux_lemma => kernel_rfl) (by as_aux_lemma => kernel_rfl) (by as_aux_lemma => kernel_rfl) (by as_aux_lemma => kernel_rfl) (by as_aux_lemma => kernel_rfl) (fun _ _ _ h => h) (Or.inl ⟨by rfl, ?_⟩) (by assumption) ?_
      rotate_left
      · (intro w hSw; (try dsimp only at hSw); go_simp; try with_reducible rfl)
      try simp only [Act.put, List.setIfInBounds_toArray, List.set_cons_zero, List.set_cons_succ]
      refine wpAnyT_takeL2 (i := 6) (v := ?_) rfl (by as_aux_lemma => kernel_rfl) (by as_aux_lemma => kernel_rfl) (by as_aux_lemma => kernel_rfl) (by as_aux_lemma => kernel_rfl) (by as_aux_lemma => kernel_rfl) (fun _ _ _ h => h) (Or.inl ⟨by rfl, ?_⟩) (by assumption) ?_
      rotate_left
      · (intro w hSw; (try dsimp only at hSw); go_simp; try with_reducible rfl)
      try simp only [Act.put, List.setIfInBounds_toArray, List.set_cons_zero, List.set_cons_succ]
      refine wpAnyT_bar (k := 7) rfl (by kernel_rfl) rfl (fun KK hKK => ?_)
      refine st_list rfl ?_
      go_wp2_with (go_at_call 117; refine (@spec_l2Make (pts (w.heap.size + 1 + 1 + 1) (.cells #[Value.int .i64 0, .int .i64 0, .int .i64 0, .int .i64 0, .int .i64 0, .int .i64 0, .slice none 0 0, .int .i64 0, .int .i64 0, .bool false, .bool false, .bool false, .int .i64 0, .bool false, .int .i64 0] 123 (0, 0)) * (pts (w.heap.size + 1 + 1) (.cells #[Value.slice none 0 0, .int .i64 0, .bool false, .int .i64 0, .int .i64 0, .int .i64 0, .slice none 0 0, .slice none 0 0] 121 (0, 0)) * (pts (w.heap.size + 1) (.cells #[Value.int .i64 (kf : Int), .int .i64 dep, .int .i64 (r.a), .int .i64 (r.b), .int .i64 (r.c), .int .i64 (r.d), .slice A3 dfs.length c3, .int .i64 (ki), .int .i64 (va), .bool lv, .bool df, .bool pg, .int .i64 pa, .bool rc, .int .i64 ou] 123 (0, 0)) * (pts (w.heap.size) (.cells #[Value.slice (some ⟨b0, off, none⟩) n c0, .int .i64 (fu : Int), .bool false, .int .i64 sh, .int .i64 ((mk : Int) + 1), .int .i64 dp, .slice A4 t.length c4, .slice A9 sn5.length c9] 121 (0, 0)) * (pts wr.heap.size (.cells #[.int .i64 (kf : Int), .int .i64 (ka : Int)] 112 (0, 0)) * (S)))))) _ (some ⟨b0, off, none⟩) n c0 bs inferInstance inferInstance (.slice A4 t.length c4) (.slice A9 sn5.length c9) (.slice A3 dfs.length c3) (⟨false, sh, mk + 1, dp, t, sn5⟩ : SM) (⟨(kf : Int), dep, r.l, dfs, ki, va, lv, df, pg, pa, rc, ou⟩ : SF) r rfl (SepI.cast (S := _) inferInstance (by ac_rfl)) ht hdl (fu : Int) ka hat (PreD L fu (dep + 1)) (callS L fu d) s HSG.out hdep1 HCC.out HPI.out).mono ?_; rintro e w6 ⟨vt6, vs6, vd6, r', rfl, hr', HP⟩; obtain ⟨q, hq⟩ : ∃ q, makeS (callS L fu d) (⟨false, sh, mk + 1, dp, t, sn5⟩ : SM) (⟨(kf : Int), dep, r.l, dfs, ki, va, lv, df, pg, pa, rc, ou⟩ : SF) ka s = q := ⟨_, rfl⟩; rw [hq] at hr' HP ⊢; have HQR := Hd.mk (HIN.out.round HLL.out HGG.out (s := s) (by omega) HBS2.out HBL.out hmf (HQ1.out hq)); have HKP := HKE.out; rw [hq] at HKP; clear hq; obtain ⟨⟨sp', sh', mk', dp', t', sn'⟩, ⟨f', dep', rg', dfs', ki', va', lv', df', pg', pa', rc', ou'⟩, at'⟩ := q; simp only at hr' HP HKP; obtain ⟨k1, k2⟩ := HKP; subst hr'; subst k1; have k3 := k2.symm; clear k2; subst k3; have HS6 := HP.sep; have HE6 := HP.ext; clear HP; obtain ⟨A6, c6, rfl, hc6, hc6'⟩ := Row.form HS6; obtain ⟨A7, c7, rfl, hc7, hc7'⟩ := Row.form HS6.right; obtain ⟨A8, c8, rfl, hc8, hc8'⟩ := Row.form HS6.right.right; clear hc6 hc6' hc7 hc7' hc8 hc8')
      refine ⟨rfl, ?_⟩
      refine hKK.out _ _ (wpAny_T (n := 14) (S := fun _ => True) 6 rfl ?_)
      clear hKK KK hHeld
      try simp only [Act.put, List.setIfInBounds_toArray, List.set_cons_zero, List.set_cons_succ]
      refine wpAnyT_takeL (i := 8) (v := ?_) rfl (by as_aux_lemma => kernel_rfl) (by as_aux_lemma => kernel_rfl) (by as_aux_lemma => kernel_rfl) (by as_aux_lemma => kernel_rfl) (by as_aux_lemma => kernel_rfl) (fun _ _ _ h => h) (Or.inl ⟨by rfl, ?_⟩) trivial ?_
      rotate_left
      · (intro w hSw; (try dsimp only at hSw); go_simp; try with_reducible rfl)
      try simp only [Act.put, List.setIfInBounds_toArray, List.set_cons_zero, List.set_cons_succ]
      refine wpAnyT_takeL (i := 9) (v := ?_) rfl (by as_aux_lemma => kernel_rfl) (by as_aux_lemma => kernel_rfl) (by as_aux_lemma => kernel_rfl) (by as_aux_lemma => kernel_rfl) (by as_aux_lemma => kernel_rfl) (fun _ _ _ h => h) (Or.inl ⟨by rfl, ?_⟩) trivial ?_
      rotate_left
      · (intro w hSw; (try dsimp only at hSw); go_simp; try with_reducible rfl)
      try simp only [Act.put, List.setIfInBounds_toArray, List.set_cons_zero, List.set_cons_succ]
      refine wpAnyT_takeL (i := 10) (v := ?_) rfl (by as_aux_lemma => kernel_rfl) (by as_aux_lemma => kernel_rfl) (by as_aux_lemma => kernel_rfl) (by as_aux_lemma => kernel_rfl) (by as_aux_lemma => kernel_rfl) (fun _ _ _ h => h) (Or.inl ⟨by rfl, ?_⟩) trivial ?_
      rotate_left
      · (intro w hSw; (try dsimp only at hSw); go_simp; try with_reducible rfl)
      try simp only [Act.put, List.setIfInBounds_toArray, List.set_cons_zero, List.set_cons_succ]
      refine wpAnyT_takeL (i := 11) (v := ?_) rfl (by as_aux_lemma => kernel_rfl) (by as_aux_lemma => kernel_rfl) (by as_aux_lemma => kernel_rfl) (by as_aux_lemma => kernel_rfl) (by as_aux_lemma => kernel_rfl) (fun _ _ _ h => h) (Or.inl ⟨by rfl, ?_⟩) trivial ?_
      rotate_left
      · (intro w hSw; (try dsimp only at hSw); go_simp; try with_reducible rfl)
      try simp only [Act.put, List.setIfInBounds_toArray, List.set_cons_zero, List.set_cons_succ]
      refine wpAnyT_one (i := 12) (by kernel_rfl) rfl (by kernel_rfl) (fun KK hKK => ?_)
      refine st_list rfl (ev_store rfl 121 _ _ rfl w.heap.size #[Value.slice (some ⟨b0, off, none⟩) n c0, .int .i64 (fu : Int), .bool sp', .int .i64 sh', .int .i64 (mk' : Int), .int .i64 dp', .slice A6 t'.length c6, .slice A7 sn'.length c7] rfl rfl info_sm (by rfl) (by simp [Value.oneCell']) ?_)
      intro w8 HS8 HE8
      refine ⟨rfl, ?_⟩
      refine hKK.out _ _ trivial (fun hHeld => ?_)
      clear hKK KK
      try simp only [Act.put, List.setIfInBounds_toArray, List.set_cons_zero, List.set_cons_succ]
      refine wpAnyT_one (i := 13) (by kernel_rfl) rfl (by kernel_rfl) (fun KK hKK => ?_)
      refine st_list rfl (ev_store rfl 123 _ _ rfl (w.heap.size + 1) #[Value.int .i64 (kf : Int), .int .i64 dep, .int .i64 r'.a, .int .i64 r'.b, .int .i64 r'.c, .int .i64 r'.d, .slice A8 dfs'.length c8, .int .i64 ki', .int .i64 va', .bool lv', .bool df', .bool pg', .int .i64 pa', .bool rc', .int .i64 ou'] rfl rfl info_sf (by rfl) (by simp [Value.oneCell']) ?_)
      intro w9 HS9 HE9
      refine ⟨rfl, ?_⟩
      refine hKK.out _ _ trivial (fun hHeld => ?_)
      clear hKK KK
      try simp only [Act.put, List.setIfInBounds_toArray, List.set_cons_zero, List.set_cons_succ]
      refine wpAnyT_done (by kernel_rfl) ?_
      clear HCC HPI HKE HQ1 HS5 HSR HS6 HS8
      cases sp'
      rotate_left
      · have HQ : Hd (R = ((⟨true, sh', mk', dp', t', sn'⟩ : SM), (⟨(kf : Int), dep, r'.l, dfs', ki', va', lv', df', pg', pa', rc', ou'⟩ : SF))) := ⟨HQR.out.1 rfl⟩
        go_wp2
        refine wp_region_T 3 (by kernel_rfl) (by kernel_rfl) (fun w' => w'.cell? ⟨w.heap.size, 0, none⟩ = some (.slice (some ⟨b0, off, none⟩) n c0) ∧ w'.cell? ⟨w.heap.size, 1, none⟩ = some (.int .i64 (fu : Int)) ∧ w'.cell? ⟨w.heap.size, 2, none⟩ = some (.bool true) ∧ w'.cell? ⟨w.heap.size, 3, none⟩ = some (.int .i64 sh') ∧ w'.cell? ⟨w.heap.size, 4, none⟩ = some (.int .i64 (mk' : Int)) ∧ w'.cell? ⟨w.heap.size, 5, none⟩ = some (.int .i64 dp') ∧ w'.cell? ⟨w.heap.size, 6, none⟩ = some (.slice A6 t'.length c6) ∧ w'.cell? ⟨w.heap.size, 7, none⟩ = some (.slice A7 sn'.length c7) ∧ w'.cell? ⟨w.heap.size + 1, 0, none⟩ = some (.int .i64 (kf : Int)) ∧ w'.cell? ⟨w.heap.size + 1, 1, none⟩ = some (.int .i64 dep) ∧ w'.cell? ⟨w.heap.size + 1, 2, none⟩ = some (.int .i64 r'.a) ∧ w'.cell? ⟨w.heap.size + 1, 3, none⟩ = some (.int .i64 r'.b) ∧ w'.cell? ⟨w.heap.size + 1, 4, none⟩ = some (.int .i64 r'.c) ∧ w'.cell? ⟨w.heap.size + 1, 5, none⟩ = some (.int .i64 r'.d) ∧ w'.cell? ⟨w.heap.size + 1, 6, none⟩ = some (.slice A8 dfs'.length c8) ∧ w'.cell? ⟨w.heap.size + 1, 7, none⟩ = some (.int .i64 ki') ∧ w'.cell? ⟨w.heap.size + 1, 8, none⟩ = some (.int .i64 va') ∧ w'.cell? ⟨w.heap.size + 1, 9, none⟩ = some (.bool lv') ∧ w'.cell? ⟨w.heap.size + 1, 10, none⟩ = some (.bool df') ∧ w'.cell? ⟨w.heap.size + 1, 11, none⟩ = some (.bool pg') ∧ w'.cell? ⟨w.heap.size + 1, 12, none⟩ = some (.int .i64 pa') ∧ w'.cell? ⟨w.heap.size + 1, 13, none⟩ = some (.bool rc') ∧ w'.cell? ⟨w.heap.size + 1, 14, none⟩ = some (.int .i64 ou')) ⟨cb, cb, cb, cb, cb, cb, cb, cb, cb, cb, cb, cb, cb, cb, cb, cb, cb, cb, cb, cb, cb, cb, cb⟩ (fun hHeld => ?_)
        refine wpAnyT_takeL (i := 0) (v := ?_) rfl (by as_aux_lemma => kernel_rfl) (by as_aux_lemma => kernel_rfl) (by as_aux_lemma => kernel_rfl) (by as_aux_lemma => kernel_rfl) (by as_aux_lemma => kernel_rfl) (fun _ _ _ h => h) (Or.inl ⟨by rfl, ?_⟩) (by assumption) ?_
        rotate_left
        · (intro w hSw; (try dsimp only at hSw); go_simp; try with_reducible rfl)
        try simp only [Act.put, List.setIfInBounds_toArray, List.set_cons_zero, List.set_cons_succ]
        refine wpAnyT_takeL (i := 1) (v := ?_) rfl (by as_aux_lemma => kernel_rfl) (by as_aux_lemma => kernel_rfl) (by as_aux_lemma => kernel_rfl) (by as_aux_lemma => kernel_rfl) (by as_aux_lemma => kernel_rfl) (fun _ _ _ h => h) (Or.inl ⟨by rfl, ?_⟩) (by assumption) ?_
        rotate_left
        · (intro w hSw; (try dsimp only at hSw); go_simp; try with_reducible rfl)
        try simp only [Act.put, List.setIfInBounds_toArray, List.set_cons_zero, List.set_cons_succ]
        refine wpAnyT_one (i := 2) (by kernel_rfl) rfl (by kernel_rfl) (fun KK hKK => ?_)
        refine st_list rfl (ev_store rfl 121 _ _ rfl (w.heap.size + 1 + 1) #[Value.slice (some ⟨b0, off, none⟩) n c0, .int .i64 (fu : Int), .bool true, .int .i64 sh', .int .i64 (mk' : Int), .int .i64 dp', .slice A6 t'.length c6, .slice A7 sn'.length c7] rfl rfl info_sm (by rfl) (by simp [Value.oneCell']) ?_)
        intro w10 HS10 HE10
        refine ⟨rfl, ?_⟩
        refine hKK.out _ _ ⟨cb, cb, cb, cb, cb, cb, cb, cb, cb, cb, cb, cb, cb, cb, cb, cb, cb, cb, cb, cb, cb, cb, cb⟩ (fun hHeld => ?_)
        clear hKK KK
        try simp only [Act.put, List.setIfInBounds_toArray, List.set_cons_zero, List.set_cons_succ]
        refine wpAnyT_done (by kernel_rfl) ?_
        refine ev_store rfl 123 _ _ rfl (w.heap.size + 1 + 1 + 1) #[Value.int .i64 (kf : Int), .int .i64 dep, .int .i64 r'.a, .int .i64 r'.b, .int .i64 r'.c, .int .i64 r'.d, .slice A8 dfs'.length c8, .int .i64 ki', .int .i64 va', .bool lv', .bool df', .bool pg', .int .i64 pa', .bool rc', .int .i64 ou'] rfl rfl info_sf (by rfl) (by simp [Value.oneCell']) ?_
        intro w11 HS11 HE11
        go_wp2
        refine bodyPost_ret (v := .tuple #[mV (.slice (some ⟨b0, off, none⟩) n c0) (.slice A6 t'.length c6) (.slice A7 sn'.length c7) (fu : Int) (⟨true, sh', mk', dp', t', sn'⟩ : SM), fV (⟨(kf : Int), dep, r'.l, dfs', ki', va', lv', df', pg', pa', rc', ou'⟩ : SF) r' (.slice A8 dfs'.length c8)]) (by simp [results, Try.results103, go_sem]) rfl ?_
        exact CallP.of (m' := (⟨true, sh', mk', dp', t', sn'⟩ : SM)) (c' := (⟨(kf : Int), dep, r'.l, dfs', ki', va', lv', df', pg', pa', rc', ou'⟩ : SF)) (r := r') (vt := .slice A6 t'.length c6) (vs := .slice A7 sn'.length c7) (vd := .slice A8 dfs'.length c8) (k := dfs'.length) HQ.out rfl rfl (Post.mk' (Ent.sep (S := _) (T := Row 75 3 (.slice A6 t'.length c6) t'.length (cEvs t') * (Row 112 2 (.slice A7 sn'.length c7) sn'.length (cPr sn') * (Row 112 2 (.slice A8 dfs'.length c8) dfs'.length (cPr dfs') * (S)))) inferInstance inferInstance) inferInstance)
      obtain ⟨k', hk', HIN'⟩ := HQR.out.2 rfl
      have HIN2 := Hd.mk HIN'
      clear HIN' HQR
      go_wp2
      go_roundg k'
      case measure => exact hk'
      case rel => exact ⟨sh', mk', dp', t', sn', r', dfs', ki', va', lv', df', pg', pa', rc', ou', A6, c6, A7, c7, A8, c8, at', rfl, inferInstance, HIN2, Ent.sep (S := _) inferInstance inferInstance⟩
  case rest =>
    as_aux_lemma =>
      obtain ⟨sh, mk, dp, t, sn, r, dfs, ki, va, lv, df, pg, pa, rc, ou, A4, c4, A5, c5, A3, c3, HX0, HIR, HSR⟩ := hcut
      go_wp2_with fail
      go_loopg [] (dfs.length) (fun gk wr => ∃ (sh : Int) (mk : Nat) (dp : Int) (t : List Ev) (sn : List (Int × Int)) (r : R4s) (dfs : List (Int × Int)) (ki va : Int) (lv df pg : Bool) (pa : Int) (rc : Bool) (ou : Int) (A4 : Option Addr) (c4 : Nat) (A5 : Option Addr) (c5 : Nat) (A3 : Option Addr) (c3 : Nat), ExtI w wr ∧ Hd (InRest L fu (callS L fu d) R M0 (⟨false, sh, mk, dp, t, sn⟩ : SM) (⟨(kf : Int), dep, r.l, dfs, ki, va, lv, df, pg, pa, rc, ou⟩ : SF) ∧ dfs.length = gk) ∧ SepI wr (pts (w.heap.size + 1 + 1 + 1) (.cells #[Value.int .i64 0, .int .i64 0, .int .i64 0, .int .i64 0, .int .i64 0, .int .i64 0, .slice none 0 0, .int .i64 0, .int .i64 0, .bool false, .bool false, .bool false, .int .i64 0, .bool false, .int .i64 0] 123 (0, 0)) * (pts (w.heap.size + 1 + 1) (.cells #[Value.slice none 0 0, .int .i64 0, .bool false, .int .i64 0, .int .i64 0, .int .i64 0, .slice none 0 0, .slice none 0 0] 121 (0, 0)) * (pts (w.heap.size + 1) (.cells #[Value.int .i64 (kf : Int), .int .i64 dep, .int .i64 (r.a), .int .i64 (r.b), .int .i64 (r.c), .int .i64 (r.d), .slice A3 dfs.length c3, .int .i64 (ki), .int .i64 (va), .bool lv, .bool df, .bool pg, .int .i64 pa, .bool rc, .int .i64 ou] 123 (0, 0)) * (pts (w.heap.size) (.cells #[Value.slice (some ⟨b0, off, none⟩) n c0, .int .i64 (fu : Int), .bool false, .int .i64 sh, .int .i64 (mk : Int), .int .i64 dp, .slice A4 t.length c4, .slice A5 sn.length c5] 121 (0, 0)) * (Row 112 2 (.slice A3 dfs.length c3) dfs.length (cPr dfs) * (Row 75 3 (.slice A4 t.length c4) t.length (cEvs t) * (Row 112 2 (.slice A5 sn.length c5) sn.length (cPr sn) * (S)))))))))
      case atStart => exact ⟨sh, mk, dp, t, sn, r, dfs, ki, va, lv, df, pg, pa, rc, ou, A4, c4, A5, c5, A3, c3, inferInstance, ⟨HIR.out, rfl⟩, HSR⟩
      case round =>
      clear HIR HSR
      obtain ⟨sh, mk, dp, t, sn, r, dfs, ki, va, lv, df, pg, pa, rc, ou, A4, c4, A5, c5, A3, c3, HX, HIQ, HSR⟩ := hrel
      have HIR := Hd.mk HIQ.out.1
      have hmk := HIR.out.sm.made
      have hwt := HIR.out.wt.grow
      simp only at hmk hwt
      have h0 := HM0.out
      have ht : t.length ≤ 1048576 := by omega
      have hdl : dfs.length ≤ 1048576 := by omega
      have hdep1 : 0 ≤ dep ∧ dep ≤ 1048576 := by omega
      clear hwt h0 hmk
      by_cases hz : dfs.length = 0
      · have HEQ : Hd (R = (endS (⟨false, sh, mk, dp, t, sn⟩ : SM) (⟨(kf : Int), dep, r.l, dfs, ki, va, lv, df, pg, pa, rc, ou⟩ : SF), (⟨(kf : Int), dep, r.l, dfs, ki, va, lv, df, pg, pa, rc, ou⟩ : SF))) := ⟨HIR.out.done hz⟩
        have hz0 : ¬ (0 : Int) < dfs.length := by omega
        clear hz HIQ
        by_cases k1 : ki = 1
        · subst k1
          as_aux_lemma =>
            obtain ⟨t8, HT8⟩ : ∃ q : List Ev, Hd (q = t ++ [(⟨7, (kf : Int), r.b⟩ : Ev)]) := ⟨_, ⟨rfl⟩⟩
            have HQ : Hd (R = ((⟨false, sh, mk, dp, t8, sn⟩ : SM), (⟨(kf : Int), dep, r.l, dfs, 1, va, lv, df, pg, pa, rc, ou⟩ : SF))) := ⟨by rw [HEQ.out, HT8.out]; rfl⟩
            go_wp2_with fail
            refine (@spec_l2Tell _ _ (some ⟨b0, off, none⟩) n c0 (.slice A4 t.length c4) A5 sn.length c5 t (SepI.pickR (S := _) inferInstance inferInstance) ht (fu : Int) sh mk dp false 7 kf (r.b)).mono ?_
            rintro e w4 ⟨vt8, rfl, HP⟩
            rw [← HT8.out] at HP
            have HS4 := HP.sep
            have HE4 := HP.ext
            clear HP
            obtain ⟨A8, c8, rfl, hc8, hc8'⟩ := Row.form HS4
            clear hc8 hc8'
            simp only []
            rename_i hK
            refine hK _ _ ?_
            refine ev_store rfl 121 _ _ rfl w.heap.size #[Value.slice (some ⟨b0, off, none⟩) n c0, .int .i64 (fu : Int), .bool false, .int .i64 sh, .int .i64 (mk : Int), .int .i64 dp, .slice A8 t8.length c8, .slice A5 sn.length c5] rfl rfl info_sm (by rfl) (by simp [Value.oneCell']) ?_
            intro w5 HS5 HE5
            clear HS4 hK HSR
            go_wp2
            refine wp_region_T 3 (by kernel_rfl) (by kernel_rfl) (fun w' => w'.cell? ⟨w.heap.size, 0, none⟩ = some (.slice (some ⟨b0, off, none⟩) n c0) ∧ w'.cell? ⟨w.heap.size, 1, none⟩ = some (.int .i64 (fu : Int)) ∧ w'.cell? ⟨w.heap.size, 2, none⟩ = some (.bool false) ∧ w'.cell? ⟨w.heap.size, 3, none⟩ = some (.int .i64 sh) ∧ w'.cell? ⟨w.heap.size, 4, none⟩ = some (.int .i64 (mk : Int)) ∧ w'.cell? ⟨w.heap.size, 5, none⟩ = some (.int .i64 dp) ∧ w'.cell? ⟨w.heap.size, 6, none⟩ = some (.slice A8 t8.length c8) ∧ w'.cell? ⟨w.heap.size, 7, none⟩ = some (.slice A5 sn.length c5) ∧ w'.cell? ⟨w.heap.size + 1, 0, none⟩ = some (.int .i64 (kf : Int)) ∧ w'.cell? ⟨w.heap.size + 1, 1, none⟩ = some (.int .i64 dep) ∧ w'.cell? ⟨w.heap.size + 1, 2, none⟩ = some (.int .i64 (r.a)) ∧ w'.cell? ⟨w.heap.size + 1, 3, none⟩ = some (.int .i64 (r.b)) ∧ w'.cell? ⟨w.heap.size + 1, 4, none⟩ = some (.int .i64 (r.c)) ∧ w'.cell? ⟨w.heap.size + 1, 5, none⟩ = some (.int .i64 (r.d)) ∧ w'.cell? ⟨w.heap.size + 1, 6, none⟩ = some (.slice A3 dfs.length c3) ∧ w'.cell? ⟨w.heap.size + 1, 7, none⟩ = some (.int .i64 (1)) ∧ w'.cell? ⟨w.heap.size + 1, 8, none⟩ = some (.int .i64 (va)) ∧ w'.cell? ⟨w.heap.size + 1, 9, none⟩ = some (.bool lv) ∧ w'.cell? ⟨w.heap.size + 1, 10, none⟩ = some (.bool df) ∧ w'.cell? ⟨w.heap.size + 1, 11, none⟩ = some (.bool pg) ∧ w'.cell? ⟨w.heap.size + 1, 12, none⟩ = some (.int .i64 pa) ∧ w'.cell? ⟨w.heap.size + 1, 13, none⟩ = some (.bool rc) ∧ w'.cell? ⟨w.heap.size + 1, 14, none⟩ = some (.int .i64 ou)) ⟨cb, cb, cb, cb, cb, cb, cb, cb, cb, cb, cb, cb, cb, cb, cb, cb, cb, cb, cb, cb, cb, cb, cb⟩ (fun hHeld => ?_)
            refine wpAnyT_takeL (i := 0) (v := ?_) rfl (by as_aux_lemma => kernel_rfl) (by as_aux_lemma => kernel_rfl) (by as_aux_lemma => kernel_rfl) (by as_aux_lemma => kernel_rfl) (by as_aux_lemma => kernel_rfl) (fun _ _ _ h => h) (Or.inl ⟨by rfl, ?_⟩) (by assumption) ?_
            rotate_left
            · (intro w hSw; (try dsimp only at hSw); go_simp; try with_reducible rfl)
            try simp only [Act.put, List.setIfInBounds_toArray, List.set_cons_zero, List.set_cons_succ]
            refine wpAnyT_takeL (i := 1) (v := ?_) rfl (by as_aux_lemma => kernel_rfl) (by as_aux_lemma => kernel_rfl) (by as_aux_lemma => kernel_rfl) (by as_aux_lemma => kernel_rfl) (by as_aux_lemma => kernel_rfl) (fun _ _ _ h => h) (Or.inl ⟨by rfl, ?_⟩) (by assumption) ?_
            rotate_left
            · (intro w hSw; (try dsimp only at hSw); go_simp; try with_reducible rfl)
            try simp only [Act.put, List.setIfInBounds_toArray, List.set_cons_zero, List.set_cons_succ]
            refine wpAnyT_one (i := 2) (by kernel_rfl) rfl (by kernel_rfl) (fun KK hKK => ?_)
            refine st_list rfl (ev_store rfl 121 _ _ rfl (w.heap.size + 1 + 1) #[Value.slice (some ⟨b0, off, none⟩) n c0, .int .i64 (fu : Int), .bool false, .int .i64 sh, .int .i64 (mk : Int), .int .i64 dp, .slice A8 t8.length c8, .slice A5 sn.length c5] rfl rfl info_sm (by rfl) (by simp [Value.oneCell']) ?_)
            intro w8 HS8 HE8
            refine ⟨rfl, ?_⟩
            refine hKK.out _ _ ⟨cb, cb, cb, cb, cb, cb, cb, cb, cb, cb, cb, cb, cb, cb, cb, cb, cb, cb, cb, cb, cb, cb, cb⟩ (fun hHeld => ?_)
            clear hKK KK
            try simp only [Act.put, List.setIfInBounds_toArray, List.set_cons_zero, List.set_cons_succ]
            refine wpAnyT_done (by kernel_rfl) ?_
            refine ev_store rfl 123 _ _ rfl (w.heap.size + 1 + 1 + 1) #[Value.int .i64 (kf : Int), .int .i64 dep, .int .i64 (r.a), .int .i64 (r.b), .int .i64 (r.c), .int .i64 (r.d), .slice A3 dfs.length c3, .int .i64 (1), .int .i64 (va), .bool lv, .bool df, .bool pg, .int .i64 pa, .bool rc, .int .i64 ou] rfl rfl info_sf (by rfl) (by simp [Value.oneCell']) ?_
            intro w9 HS9 HE9
            go_wp2
            refine bodyPost_ret (v := .tuple #[mV (.slice (some ⟨b0, off, none⟩) n c0) (.slice A8 t8.length c8) (.slice A5 sn.length c5) (fu : Int) (⟨false, sh, mk, dp, t8, sn⟩ : SM), fV (⟨(kf : Int), dep, r.l, dfs, 1, va, lv, df, pg, pa, rc, ou⟩ : SF) r (.slice A3 dfs.length c3)]) (by simp [results, Try.results103, go_sem]) rfl ?_
            exact CallP.of (m' := (⟨false, sh, mk, dp, t8, sn⟩ : SM)) (c' := (⟨(kf : Int), dep, r.l, dfs, 1, va, lv, df, pg, pa, rc, ou⟩ : SF)) (r := r) (vt := .slice A8 t8.length c8) (vs := .slice A5 sn.length c5) (vd := .slice A3 dfs.length c3) (k := dfs.length) HQ.out rfl rfl (Post.mk' (Ent.sep (S := _) (T := Row 75 3 (.slice A8 t8.length c8) t8.length (cEvs t8) * (Row 112 2 (.slice A5 sn.length c5) sn.length (cPr sn) * (Row 112 2 (.slice A3 dfs.length c3) dfs.length (cPr dfs) * (S)))) inferInstance inferInstance) inferInstance)
        have k1' : (ki == 1) = false := beq_eq_false_iff_ne.2 k1
        by_cases k2 : ki = 2
        · subst k2
          clear k1
          as_aux_lemma =>
            obtain ⟨t8, HT8⟩ : ∃ q : List Ev, Hd (q = t ++ [(⟨8, (kf : Int), va⟩ : Ev)]) := ⟨_, ⟨rfl⟩⟩
            have HQ : Hd (R = ((⟨false, sh, mk, dp, t8, sn⟩ : SM), (⟨(kf : Int), dep, r.l, dfs, 2, va, lv, df, pg, pa, rc, ou⟩ : SF))) := ⟨by rw [HEQ.out, HT8.out]; rfl⟩
            go_wp2_with fail
            refine (@spec_l2Tell _ _ (some ⟨b0, off, none⟩) n c0 (.slice A4 t.length c4) A5 sn.length c5 t (SepI.pickR (S := _) inferInstance inferInstance) ht (fu : Int) sh mk dp false 8 kf (va)).mono ?_
            rintro e w4 ⟨vt8, rfl, HP⟩
            rw [← HT8.out] at HP
            have HS4 := HP.sep
            have HE4 := HP.ext
            clear HP
            obtain ⟨A8, c8, rfl, hc8, hc8'⟩ := Row.form HS4
            clear hc8 hc8'
            simp only []
            rename_i hK
            refine hK _ _ ?_
            refine ev_store rfl 121 _ _ rfl w.heap.size #[Value.slice (some ⟨b0, off, none⟩) n c0, .int .i64 (fu : Int), .bool false, .int .i64 sh, .int .i64 (mk : Int), .int .i64 dp, .slice A8 t8.length c8, .slice A5 sn.length c5] rfl rfl info_sm (by rfl) (by simp [Value.oneCell']) ?_
            intro w5 HS5 HE5
            clear HS4 hK HSR
            go_wp2
            refine wp_region_T 3 (by kernel_rfl) (by kernel_rfl) (fun w' => w'.cell? ⟨w.heap.size, 0, none⟩ = some (.slice (some ⟨b0, off, none⟩) n c0) ∧ w'.cell? ⟨w.heap.size, 1, none⟩ = some (.int .i64 (fu : Int)) ∧ w'.cell? ⟨w.heap.size, 2, none⟩ = some (.bool false) ∧ w'.cell? ⟨w.heap.size, 3, none⟩ = some (.int .i64 sh) ∧ w'.cell? ⟨w.heap.size, 4, none⟩ = some (.int .i64 (mk : Int)) ∧ w'.cell? ⟨w.heap.size, 5, none⟩ = some (.int .i64 dp) ∧ w'.cell? ⟨w.heap.size, 6, none⟩ = some (.slice A8 t8.length c8) ∧ w'.cell? ⟨w.heap.size, 7, none⟩ = some (.slice A5 sn.length c5) ∧ w'.cell? ⟨w.heap.size + 1, 0, none⟩ = some (.int .i64 (kf : Int)) ∧ w'.cell? ⟨w.heap.size + 1, 1, none⟩ = some (.int .i64 dep) ∧ w'.cell? ⟨w.heap.size + 1, 2, none⟩ = some (.int .i64 (r.a)) ∧ w'.cell? ⟨w.heap.size + 1, 3, none⟩ = some (.int .i64 (r.b)) ∧ w'.cell? ⟨w.heap.size + 1, 4, none⟩ = some (.int .i64 (r.c)) ∧ w'.cell? ⟨w.heap.size + 1, 5, none⟩ = some (.int .i64 (r.d)) ∧ w'.cell? ⟨w.heap.size + 1, 6, none⟩ = some (.slice A3 dfs.length c3) ∧ w'.cell? ⟨w.heap.size + 1, 7, none⟩ = some (.int .i64 (2)) ∧ w'.cell? ⟨w.heap.size + 1, 8, none⟩ = some (.int .i64 (va)) ∧ w'.cell? ⟨w.heap.size + 1, 9, none⟩ = some (.bool lv) ∧ w'.cell? ⟨w.heap.size + 1, 10, none⟩ = some (.bool df) ∧ w'.cell? ⟨w.heap.size + 1, 11, none⟩ = some (.bool pg) ∧ w'.cell? ⟨w.heap.size + 1, 12, none⟩ = some (.int .i64 pa) ∧ w'.cell? ⟨w.heap.size + 1, 13, none⟩ = some (.bool rc) ∧ w'.cell? ⟨w.heap.size + 1, 14, none⟩ = some (.int .i64 ou)) ⟨cb, cb, cb, cb, cb, cb, cb, cb, cb, cb, cb, cb, cb, cb, cb, cb, cb, cb, cb, cb, cb, cb, cb⟩ (fun hHeld => ?_)
            refine wpAnyT_takeL (i := 0) (v := ?_) rfl (by as_aux_lemma => kernel_rfl) (by as_aux_lemma => kernel_rfl) (by as_aux_lemma => kernel_rfl) (by as_aux_lemma => kernel_rfl) (by as_aux_lemma => kernel_rfl) (fun _ _ _ h => h) (Or.inl ⟨by rfl, ?_⟩) (by assumption) ?_
            rotate_left
            · (intro w hSw; (try dsimp only at hSw); go_simp; try with_reducible rfl)
            try simp only [Act.put, List.setIfInBounds_toArray, List.set_cons_zero, List.set_cons_succ]
            refine wpAnyT_takeL (i := 1) (v := ?_) rfl (by as_aux_lemma => kernel_rfl) (by as_aux_lemma => kernel_rfl) (by as_aux_lemma => kernel_rfl) (by as_aux_lemma => kernel_rfl) (by as_aux_lemma => kernel_rfl) (fun _ _ _ h => h) (Or.inl ⟨by rfl, ?_⟩) (by assumption) ?_
            rotate_left
            · (intro w hSw; (try dsimp only at hSw); go_simp; try with_reducible rfl)
            try simp only [Act.put, List.setIfInBounds_toArray, List.set_cons_zero, List.set_cons_succ]
            refine wpAnyT_one (i := 2) (by kernel_rfl) rfl (by kernel_rfl) (fun KK hKK => ?_)
            refine st_list rfl (ev_store rfl 121 _ _ rfl (w.heap.size + 1 + 1) #[Value.slice (some ⟨b0, off, none⟩) n c0, .int .i64 (fu : Int), .bool false, .int .i64 sh, .int .i64 (mk : Int), .int .i64 dp, .slice A8 t8.length c8, .slice A5 sn.length c5] rfl rfl info_sm (by rfl) (by simp [Value.oneCell']) ?_)
            intro w8 HS8 HE8
            refine ⟨rfl, ?_⟩
            refine hKK.out _ _ ⟨cb, cb, cb, cb, cb, cb, cb, cb, cb, cb, cb, cb, cb, cb, cb, cb, cb, cb, cb, cb, cb, cb, cb⟩ (fun hHeld => ?_)
            clear hKK KK
            try simp only [Act.put, List.setIfInBounds_toArray, List.set_cons_zero, List.set_cons_succ]
            refine wpAnyT_done (by kernel_rfl) ?_
            refine ev_store rfl 123 _ _ rfl (w.heap.size + 1 + 1 + 1) #[Value.int .i64 (kf : Int), .int .i64 dep, .int .i64 (r.a), .int .i64 (r.b), .int .i64 (r.c), .int .i64 (r.d), .slice A3 dfs.length c3, .int .i64 (2), .int .i64 (va), .bool lv, .bool df, .bool pg, .int .i64 pa, .bool rc, .int .i64 ou] rfl rfl info_sf (by rfl) (by simp [Value.oneCell']) ?_
            intro w9 HS9 HE9
            go_wp2
            refine bodyPost_ret (v := .tuple #[mV (.slice (some ⟨b0, off, none⟩) n c0) (.slice A8 t8.length c8) (.slice A5 sn.length c5) (fu : Int) (⟨false, sh, mk, dp, t8, sn⟩ : SM), fV (⟨(kf : Int), dep, r.l, dfs, 2, va, lv, df, pg, pa, rc, ou⟩ : SF) r (.slice A3 dfs.length c3)]) (by simp [results, Try.results103, go_sem]) rfl ?_
            exact CallP.of (m' := (⟨false, sh, mk, dp, t8, sn⟩ : SM)) (c' := (⟨(kf : Int), dep, r.l, dfs, 2, va, lv, df, pg, pa, rc, ou⟩ : SF)) (r := r) (vt := .slice A8 t8.length c8) (vs := .slice A5 sn.length c5) (vd := .slice A3 dfs.length c3) (k := dfs.length) HQ.out rfl rfl (Post.mk' (Ent.sep (S := _) (T := Row 75 3 (.slice A8 t8.length c8) t8.length (cEvs t8) * (Row 112 2 (.slice A5 sn.length c5) sn.length (cPr sn) * (Row 112 2 (.slice A3 dfs.length c3) dfs.length (cPr dfs) * (S)))) inferInstance inferInstance) inferInstance)
        have k2' : (ki == 2) = false := beq_eq_false_iff_ne.2 k2
        by_cases k3 : ki = 3
        · subst k3
          clear k1 k2
          as_aux_lemma =>
            obtain ⟨t8, HT8⟩ : ∃ q : List Ev, Hd (q = t ++ [(⟨9, (kf : Int), 0⟩ : Ev)]) := ⟨_, ⟨rfl⟩⟩
            have HQ : Hd (R = ((⟨false, sh, mk, dp, t8, sn⟩ : SM), (⟨(kf : Int), dep, r.l, dfs, 3, va, lv, df, pg, pa, rc, ou⟩ : SF))) := ⟨by rw [HEQ.out, HT8.out]; rfl⟩
            go_wp2_with fail
            refine (@spec_l2Tell _ _ (some ⟨b0, off, none⟩) n c0 (.slice A4 t.length c4) A5 sn.length c5 t (SepI.pickR (S := _) inferInstance inferInstance) ht (fu : Int) sh mk dp false 9 kf (0)).mono ?_
            rintro e w4 ⟨vt8, rfl, HP⟩
            rw [← HT8.out] at HP
            have HS4 := HP.sep
            have HE4 := HP.ext
            clear HP
            obtain ⟨A8, c8, rfl, hc8, hc8'⟩ := Row.form HS4
            clear hc8 hc8'
            simp only []
            rename_i hK
            refine hK _ _ ?_
            refine ev_store rfl 121 _ _ rfl w.heap.size #[Value.slice (some ⟨b0, off, none⟩) n c0, .int .i64 (fu : Int), .bool false, .int .i64 sh, .int .i64 (mk : Int), .int .i64 dp, .slice A8 t8.length c8, .slice A5 sn.length c5] rfl rfl info_sm (by rfl) (by simp [Value.oneCell']) ?_
            intro w5 HS5 HE5
            clear HS4 hK HSR
            go_wp2
            refine wp_region_T 3 (by kernel_rfl) (by kernel_rfl) (fun w' => w'.cell? ⟨w.heap.size, 0, none⟩ = some (.slice (some ⟨b0, off, none⟩) n c0) ∧ w'.cell? ⟨w.heap.size, 1, none⟩ = some (.int .i64 (fu : Int)) ∧ w'.cell? ⟨w.heap.size, 2, none⟩ = some (.bool false) ∧ w'.cell? ⟨w.heap.size, 3, none⟩ = some (.int .i64 sh) ∧ w'.cell? ⟨w.heap.size, 4, none⟩ = some (.int .i64 (mk : Int)) ∧ w'.cell? ⟨w.heap.size, 5, none⟩ = some (.int .i64 dp) ∧ w'.cell? ⟨w.heap.size, 6, none⟩ = some (.slice A8 t8.length c8) ∧ w'.cell? ⟨w.heap.size, 7, none⟩ = some (.slice A5 sn.length c5) ∧ w'.cell? ⟨w.heap.size + 1, 0, none⟩ = some (.int .i64 (kf : Int)) ∧ w'.cell? ⟨w.heap.size + 1, 1, none⟩ = some (.int .i64 dep) ∧ w'.cell? ⟨w.heap.size + 1, 2, none⟩ = some (.int .i64 (r.a)) ∧ w'.cell? ⟨w.heap.size + 1, 3, none⟩ = some (.int .i64 (r.b)) ∧ w'.cell? ⟨w.heap.size + 1, 4, none⟩ = some (.int .i64 (r.c)) ∧ w'.cell? ⟨w.heap.size + 1, 5, none⟩ = some (.int .i64 (r.d)) ∧ w'.cell? ⟨w.heap.size + 1, 6, none⟩ = some (.slice A3 dfs.length c3) ∧ w'.cell? ⟨w.heap.size + 1, 7, none⟩ = some (.int .i64 (3)) ∧ w'.cell? ⟨w.heap.size + 1, 8, none⟩ = some (.int .i64 (va)) ∧ w'.cell? ⟨w.heap.size + 1, 9, none⟩ = some (.bool lv) ∧ w'.cell? ⟨w.heap.size + 1, 10, none⟩ = some (.bool df) ∧ w'.cell? ⟨w.heap.size + 1, 11, none⟩ = some (.bool pg) ∧ w'.cell? ⟨w.heap.size + 1, 12, none⟩ = some (.int .i64 pa) ∧ w'.cell? ⟨w.heap.size + 1, 13, none⟩ = some (.bool rc) ∧ w'.cell? ⟨w.heap.size + 1, 14, none⟩ = some (.int .i64 ou)) ⟨cb, cb, cb, cb, cb, cb, cb, cb, cb, cb, cb, cb, cb, cb, cb, cb, cb, cb, cb, cb, cb, cb, cb⟩ (fun hHeld => ?_)
            refine wpAnyT_takeL (i := 0) (v := ?_) rfl (by as_aux_lemma => kernel_rfl) (by as_aux_lemma => kernel_rfl) (by as_aux_lemma => kernel_rfl) (by as_aux_lemma => kernel_rfl) (by as_aux_lemma => kernel_rfl) (fun _ _ _ h => h) (Or.inl ⟨by rfl, ?_⟩) (by assumption) ?_
            rotate_left
            · (intro w hSw; (try dsimp only at hSw); go_simp; try with_reducible rfl)
            try simp only [Act.put, List.setIfInBounds_toArray, List.set_cons_zero, List.set_cons_succ]
            refine wpAnyT_takeL (i := 1) (v := ?_) rfl (by as_aux_lemma => kernel_rfl) (by as_aux_lemma => kernel_rfl) (by as_aux_lemma => kernel_rfl) (by as_aux_lemma => kernel_rfl) (by as_aux_lemma => kernel_rfl) (fun _ _ _ h => h) (Or.inl ⟨by rfl, ?_⟩) (by assumption) ?_
            rotate_left
            · (intro w hSw; (try dsimp only at hSw); go_simp; try with_reducible rfl)
            try simp only [Act.put, List.setIfInBounds_toArray, List.set_cons_zero, List.set_cons_succ]
            refine wpAnyT_one (i := 2) (by kernel_rfl) rfl (by kernel_rfl) (fun KK hKK => ?_)
            refine st_list rfl (ev_store rfl 121 _ _ rfl (w.heap.size + 1 + 1) #[Value.slice (some ⟨b0, off, none⟩) n c0, .int .i64 (fu : Int), .bool false, .int .i64 sh, .int .i64 (mk : Int), .int .i64 dp, .slice A8 t8.length c8, .slice A5 sn.length c5] rfl rfl info_sm (by rfl) (by simp [Value.oneCell']) ?_)
            intro w8 HS8 HE8
            refine ⟨rfl, ?_⟩
            refine hKK.out _ _ ⟨cb, cb, cb, cb, cb, cb, cb, cb, cb, cb, cb, cb, cb, cb, cb, cb, cb, cb, cb, cb, cb, cb, cb⟩ (fun hHeld => ?_)
            clear hKK KK
            try simp only [Act.put, List.setIfInBounds_toArray, List.set_cons_zero, List.set_cons_succ]
            refine wpAnyT_done (by kernel_rfl) ?_
            refine ev_store rfl 123 _ _ rfl (w.heap.size + 1 + 1 + 1) #[Value.int .i64 (kf : Int), .int .i64 dep, .int .i64 (r.a), .int .i64 (r.b), .int .i64 (r.c), .int .i64 (r.d), .slice A3 dfs.length c3, .int .i64 (3), .int .i64 (va), .bool lv, .bool df, .bool pg, .int .i64 pa, .bool rc, .int .i64 ou] rfl rfl info_sf (by rfl) (by simp [Value.oneCell']) ?_
            intro w9 HS9 HE9
            go_wp2
            refine bodyPost_ret (v := .tuple #[mV (.slice (some ⟨b0, off, none⟩) n c0) (.slice A8 t8.length c8) (.slice A5 sn.length c5) (fu : Int) (⟨false, sh, mk, dp, t8, sn⟩ : SM), fV (⟨(kf : Int), dep, r.l, dfs, 3, va, lv, df, pg, pa, rc, ou⟩ : SF) r (.slice A3 dfs.length c3)]) (by simp [results, Try.results103, go_sem]) rfl ?_
            exact CallP.of (m' := (⟨false, sh, mk, dp, t8, sn⟩ : SM)) (c' := (⟨(kf : Int), dep, r.l, dfs, 3, va, lv, df, pg, pa, rc, ou⟩ : SF)) (r := r) (vt := .slice A8 t8.length c8) (vs := .slice A5 sn.length c5) (vd := .slice A3 dfs.length c3) (k := dfs.length) HQ.out rfl rfl (Post.mk' (Ent.sep (S := _) (T := Row 75 3 (.slice A8 t8.length c8) t8.length (cEvs t8) * (Row 112 2 (.slice A5 sn.length c5) sn.length (cPr sn) * (Row 112 2 (.slice A3 dfs.length c3) dfs.length (cPr dfs) * (S)))) inferInstance inferInstance) inferInstance)
        have k3' : (ki == 3) = false := beq_eq_false_iff_ne.2 k3
        have HQ : Hd (R = ((⟨false, sh, mk, dp, t, sn⟩ : SM), (⟨(kf : Int), dep, r.l, dfs, ki, va, lv, df, pg, pa, rc, ou⟩ : SF))) := ⟨by rw [HEQ.out]; unfold endS; rw [if_neg k1, if_neg k2, if_neg k3]⟩
        clear k1 k2 k3 HEQ
        go_wp2
        refine wp_region_T 3 (by kernel_rfl) (by kernel_rfl) (fun w' => w'.cell? ⟨w.heap.size, 0, none⟩ = some (.slice (some ⟨b0, off, none⟩) n c0) ∧ w'.cell? ⟨w.heap.size, 1, none⟩ = some (.int .i64 (fu : Int)) ∧ w'.cell? ⟨w.heap.size, 2, none⟩ = some (.bool false) ∧ w'.cell? ⟨w.heap.size, 3, none⟩ = some (.int .i64 sh) ∧ w'.cell? ⟨w.heap.size, 4, none⟩ = some (.int .i64 (mk : Int)) ∧ w'.cell? ⟨w.heap.size, 5, none⟩ = some (.int .i64 dp) ∧ w'.cell? ⟨w.heap.size, 6, none⟩ = some (.slice A4 t.length c4) ∧ w'.cell? ⟨w.heap.size, 7, none⟩ = some (.slice A5 sn.length c5) ∧ w'.cell? ⟨w.heap.size + 1, 0, none⟩ = some (.int .i64 (kf : Int)) ∧ w'.cell? ⟨w.heap.size + 1, 1, none⟩ = some (.int .i64 dep) ∧ w'.cell? ⟨w.heap.size + 1, 2, none⟩ = some (.int .i64 (r.a)) ∧ w'.cell? ⟨w.heap.size + 1, 3, none⟩ = some (.int .i64 (r.b)) ∧ w'.cell? ⟨w.heap.size + 1, 4, none⟩ = some (.int .i64 (r.c)) ∧ w'.cell? ⟨w.heap.size + 1, 5, none⟩ = some (.int .i64 (r.d)) ∧ w'.cell? ⟨w.heap.size + 1, 6, none⟩ = some (.slice A3 dfs.length c3) ∧ w'.cell? ⟨w.heap.size + 1, 7, none⟩ = some (.int .i64 (ki)) ∧ w'.cell? ⟨w.heap.size + 1, 8, none⟩ = some (.int .i64 (va)) ∧ w'.cell? ⟨w.heap.size + 1, 9, none⟩ = some (.bool lv) ∧ w'.cell? ⟨w.heap.size + 1, 10, none⟩ = some (.bool df) ∧ w'.cell? ⟨w.heap.size + 1, 11, none⟩ = some (.bool pg) ∧ w'.cell? ⟨w.heap.size + 1, 12, none⟩ = some (.int .i64 pa) ∧ w'.cell? ⟨w.heap.size + 1, 13, none⟩ = some (.bool rc) ∧ w'.cell? ⟨w.heap.size + 1, 14, none⟩ = some (.int .i64 ou)) ⟨cb, cb, cb, cb, cb, cb, cb, cb, cb, cb, cb, cb, cb, cb, cb, cb, cb, cb, cb, cb, cb, cb, cb⟩ (fun hHeld => ?_)
        refine wpAnyT_takeL (i := 0) (v := ?_) rfl (by as_aux_lemma => kernel_rfl) (by as_aux_lemma => kernel_rfl) (by as_aux_lemma => kernel_rfl) (by as_aux_lemma => kernel_rfl) (by as_aux_lemma => kernel_rfl) (fun _ _ _ h => h) (Or.inl ⟨by rfl, ?_⟩) (by assumption) ?_
        rotate_left
        · (intro w hSw; (try dsimp only at hSw); go_simp; try with_reducible rfl)
        try simp only [Act.put, List.setIfInBounds_toArray, List.set_cons_zero, List.set_cons_succ]
        refine wpAnyT_takeL (i := 1) (v := ?_) rfl (by as_aux_lemma => kernel_rfl) (by as_aux_lemma => kernel_rfl) (by as_aux_lemma => kernel_rfl) (by as_aux_lemma => kernel_rfl) (by as_aux_lemma => kernel_rfl) (fun _ _ _ h => h) (Or.inl ⟨by rfl, ?_⟩) (by assumption) ?_
        rotate_left
        · (intro w hSw; (try dsimp only at hSw); go_simp; try with_reducible rfl)
        try simp only [Act.put, List.setIfInBounds_toArray, List.set_cons_zero, List.set_cons_succ]
        refine wpAnyT_one (i := 2) (by kernel_rfl) rfl (by kernel_rfl) (fun KK hKK => ?_)
        refine st_list rfl (ev_store rfl 121 _ _ rfl (w.heap.size + 1 + 1) #[Value.slice (some ⟨b0, off, none⟩) n c0, .int .i64 (fu : Int), .bool false, .int .i64 sh, .int .i64 (mk : Int), .int .i64 dp, .slice A4 t.length c4, .slice A5 sn.length c5] rfl rfl info_sm (by rfl) (by simp [Value.oneCell']) ?_)
        intro w8 HS8 HE8
        refine ⟨rfl, ?_⟩
        refine hKK.out _ _ ⟨cb, cb, cb, cb, cb, cb, cb, cb, cb, cb, cb, cb, cb, cb, cb, cb, cb, cb, cb, cb, cb, cb, cb⟩ (fun hHeld => ?_)
        clear hKK KK
        try simp only [Act.put, List.setIfInBounds_toArray, List.set_cons_zero, List.set_cons_succ]
        refine wpAnyT_done (by kernel_rfl) ?_
        refine ev_store rfl 123 _ _ rfl (w.heap.size + 1 + 1 + 1) #[Value.int .i64 (kf : Int), .int .i64 dep, .int .i64 (r.a), .int .i64 (r.b), .int .i64 (r.c), .int .i64 (r.d), .slice A3 dfs.length c3, .int .i64 (ki), .int .i64 (va), .bool lv, .bool df, .bool pg, .int .i64 pa, .bool rc, .int .i64 ou] rfl rfl info_sf (by rfl) (by simp [Value.oneCell']) ?_
        intro w9 HS9 HE9
        go_wp2
        refine bodyPost_ret (v := .tuple #[mV (.slice (some ⟨b0, off, none⟩) n c0) (.slice A4 t.length c4) (.slice A5 sn.length c5) (fu : Int) (⟨false, sh, mk, dp, t, sn⟩ : SM), fV (⟨(kf : Int), dep, r.l, dfs, ki, va, lv, df, pg, pa, rc, ou⟩ : SF) r (.slice A3 dfs.length c3)]) (by simp [results, Try.results103, go_sem]) rfl ?_
        exact CallP.of (m' := (⟨false, sh, mk, dp, t, sn⟩ : SM)) (c' := (⟨(kf : Int), dep, r.l, dfs, ki, va, lv, df, pg, pa, rc, ou⟩ : SF)) (r := r) (vt := .slice A4 t.length c4) (vs := .slice A5 sn.length c5) (vd := .slice A3 dfs.length c3) (k := dfs.length) HQ.out rfl rfl (Post.mk' (Ent.sep (S := _) (T := Row 75 3 (.slice A4 t.length c4) t.length (cEvs t) * (Row 112 2 (.slice A5 sn.length c5) sn.length (cPr sn) * (Row 112 2 (.slice A3 dfs.length c3) dfs.length (cPr dfs) * (S)))) inferInstance inferInstance) inferInstance)
      · obtain ⟨k, hk⟩ : ∃ k, dfs.length = k + 1 := ⟨dfs.length - 1, by omega⟩
        have HK := Hd.mk hk
        have hz0 : (0 : Int) < dfs.length := by omega
        have HPL : Hd (PreD L fu (dep + 1) (⟨false, sh, mk, dp, t, sn⟩ : SM) (freshLast (⟨(kf : Int), dep, r.l, dfs, ki, va, lv, df, pg, pa, rc, ou⟩ : SF))) := ⟨PreD.last HIR.out HM0.out (by show 0 < dfs.length; omega)⟩
        have HKE := Hd.mk (last_keeps (callS L fu d) (⟨false, sh, mk, dp, t, sn⟩ : SM) (⟨(kf : Int), dep, r.l, dfs, ki, va, lv, df, pg, pa, rc, ou⟩ : SF))
        clear hk hz
        as_aux_lemma =>
          go_wp2_with fail
          refine (@spec_l2Last (pts (w.heap.size + 1 + 1 + 1) (.cells #[Value.int .i64 0, .int .i64 0, .int .i64 0, .int .i64 0, .int .i64 0, .int .i64 0, .slice none 0 0, .int .i64 0, .int .i64 0, .bool false, .bool false, .bool false, .int .i64 0, .bool false, .int .i64 0] 123 (0, 0)) * (pts (w.heap.size + 1 + 1) (.cells #[Value.slice none 0 0, .int .i64 0, .bool false, .int .i64 0, .int .i64 0, .int .i64 0, .slice none 0 0, .slice none 0 0] 121 (0, 0)) * (pts (w.heap.size + 1) (.cells #[Value.int .i64 (kf : Int), .int .i64 dep, .int .i64 (r.a), .int .i64 (r.b), .int .i64 (r.c), .int .i64 (r.d), .slice A3 dfs.length c3, .int .i64 (ki), .int .i64 (va), .bool lv, .bool df, .bool pg, .int .i64 pa, .bool rc, .int .i64 ou] 123 (0, 0)) * (pts (w.heap.size) (.cells #[Value.slice (some ⟨b0, off, none⟩) n c0, .int .i64 (fu : Int), .bool false, .int .i64 sh, .int .i64 (mk : Int), .int .i64 dp, .slice A4 t.length c4, .slice A5 sn.length c5] 121 (0, 0)) * (S))))) _ (some ⟨b0, off, none⟩) n c0 bs inferInstance inferInstance (.slice A4 t.length c4) (.slice A5 sn.length c5) (.slice A3 dfs.length c3) (⟨false, sh, mk, dp, t, sn⟩ : SM) (⟨(kf : Int), dep, r.l, dfs, ki, va, lv, df, pg, pa, rc, ou⟩ : SF) r rfl k HK.out (SepI.cast (S := _) inferInstance (by ac_rfl)) hdl (fu : Int) (PreD L fu (dep + 1)) (callS L fu d) hdep1 HCC.out HPL.out).mono ?_
          rintro e w6 ⟨vt6, vs6, vd6, r', rfl, hr', HP⟩
          obtain ⟨q, hq⟩ : ∃ q, lastS (callS L fu d) (⟨false, sh, mk, dp, t, sn⟩ : SM) (⟨(kf : Int), dep, r.l, dfs, ki, va, lv, df, pg, pa, rc, ou⟩ : SF) = q := ⟨_, rfl⟩
          rw [hq] at hr' HP ⊢
          have HQR := Hd.mk (HIR.out.round HGG.out (k := k) HK.out hq)
          have HKP := HKE.out
          rw [hq] at HKP
          clear hq HKE
          obtain ⟨⟨sp', sh', mk', dp', t', sn'⟩, ⟨f', dep', rg', dfs', ki', va', lv', df', pg', pa', rc', ou'⟩⟩ := q
          simp only at hr' HP HKP
          obtain ⟨k1, k2⟩ := HKP
          subst hr'
          subst k1
          have k3 := k2.symm
          clear k2
          subst k3
          have HS6 := HP.sep
          have HE6 := HP.ext
          clear HP
          obtain ⟨A6, c6, rfl, hc6, hc6'⟩ := Row.form HS6
          obtain ⟨A7, c7, rfl, hc7, hc7'⟩ := Row.form HS6.right
          obtain ⟨A8, c8, rfl, hc8, hc8'⟩ := Row.form HS6.right.right
          clear hc6 hc6' hc7 hc7' hc8 hc8'
          simp only []
          rename_i hK
          refine hK _ _ ?_
          refine ev_val rfl _ rfl ?_
          refine ev_val rfl _ rfl ?_
          refine ev_val rfl _ rfl ?_
          refine ev_store rfl 121 _ _ rfl w.heap.size #[Value.slice (some ⟨b0, off, none⟩) n c0, .int .i64 (fu : Int), .bool sp', .int .i64 sh', .int .i64 (mk' : Int), .int .i64 dp', .slice A6 t'.length c6, .slice A7 sn'.length c7] rfl rfl info_sm (by rfl) (by simp [Value.oneCell']) ?_
          intro w8 HS8 HE8
          refine ev_store rfl 123 _ _ rfl (w.heap.size + 1) #[Value.int .i64 (kf : Int), .int .i64 dep, .int .i64 r'.a, .int .i64 r'.b, .int .i64 r'.c, .int .i64 r'.d, .slice A8 dfs'.length c8, .int .i64 ki', .int .i64 va', .bool lv', .bool df', .bool pg', .int .i64 pa', .bool rc', .int .i64 ou'] rfl rfl info_sf (by rfl) (by simp [Value.oneCell']) ?_
          intro w9 HS9 HE9
          clear HCC HPL HSR HS6 HS8 hK
          cases sp'
          rotate_left
          · have HQ : Hd (R = ((⟨true, sh', mk', dp', t', sn'⟩ : SM), (⟨(kf : Int), dep, r'.l, dfs', ki', va', lv', df', pg', pa', rc', ou'⟩ : SF))) := ⟨HQR.out.1 rfl⟩
            go_wp2
            refine wp_region_T 3 (by kernel_rfl) (by kernel_rfl) (fun w' => w'.cell? ⟨w.heap.size, 0, none⟩ = some (.slice (some ⟨b0, off, none⟩) n c0) ∧ w'.cell? ⟨w.heap.size, 1, none⟩ = some (.int .i64 (fu : Int)) ∧ w'.cell? ⟨w.heap.size, 2, none⟩ = some (.bool true) ∧ w'.cell? ⟨w.heap.size, 3, none⟩ = some (.int .i64 sh') ∧ w'.cell? ⟨w.heap.size, 4, none⟩ = some (.int .i64 (mk' : Int)) ∧ w'.cell? ⟨w.heap.size, 5, none⟩ = some (.int .i64 dp') ∧ w'.cell? ⟨w.heap.size, 6, none⟩ = some (.slice A6 t'.length c6) ∧ w'.cell? ⟨w.heap.size, 7, none⟩ = some (.slice A7 sn'.length c7) ∧ w'.cell? ⟨w.heap.size + 1, 0, none⟩ = some (.int .i64 (kf : Int)) ∧ w'.cell? ⟨w.heap.size + 1, 1, none⟩ = some (.int .i64 dep) ∧ w'.cell? ⟨w.heap.size + 1, 2, none⟩ = some (.int .i64 r'.a) ∧ w'.cell? ⟨w.heap.size + 1, 3, none⟩ = some (.int .i64 r'.b) ∧ w'.cell? ⟨w.heap.size + 1, 4, none⟩ = some (.int .i64 r'.c) ∧ w'.cell? ⟨w.heap.size + 1, 5, none⟩ = some (.int .i64 r'.d) ∧ w'.cell? ⟨w.heap.size + 1, 6, none⟩ = some (.slice A8 dfs'.length c8) ∧ w'.cell? ⟨w.heap.size + 1, 7, none⟩ = some (.int .i64 ki') ∧ w'.cell? ⟨w.heap.size + 1, 8, none⟩ = some (.int .i64 va') ∧ w'.cell? ⟨w.heap.size + 1, 9, none⟩ = some (.bool lv') ∧ w'.cell? ⟨w.heap.size + 1, 10, none⟩ = some (.bool df') ∧ w'.cell? ⟨w.heap.size + 1, 11, none⟩ = some (.bool pg') ∧ w'.cell? ⟨w.heap.size + 1, 12, none⟩ = some (.int .i64 pa') ∧ w'.cell? ⟨w.heap.size + 1, 13, none⟩ = some (.bool rc') ∧ w'.cell? ⟨w.heap.size + 1, 14, none⟩ = some (.int .i64 ou')) ⟨cb, cb, cb, cb, cb, cb, cb, cb, cb, cb, cb, cb, cb, cb, cb, cb, cb, cb, cb, cb, cb, cb, cb⟩ (fun hHeld => ?_)
            refine wpAnyT_takeL (i := 0) (v := ?_) rfl (by as_aux_lemma => kernel_rfl) (by as_aux_lemma => kernel_rfl) (by as_aux_lemma => kernel_rfl) (by as_aux_lemma => kernel_rfl) (by as_aux_lemma => kernel_rfl) (fun _ _ _ h => h) (Or.inl ⟨by rfl, ?_⟩) (by assumption) ?_
            rotate_left
            · (intro w hSw; (try dsimp only at hSw); go_simp; try with_reducible rfl)
            try simp only [Act.put, List.setIfInBounds_toArray, List.set_cons_zero, List.set_cons_succ]
            refine wpAnyT_takeL (i := 1) (v := ?_) rfl (by as_aux_lemma => kernel_rfl) (by as_aux_lemma => kernel_rfl) (by as_aux_lemma => kernel_rfl) (by as_aux_lemma => kernel_rfl) (by as_aux_lemma => kernel_rfl) (fun _ _ _ h => h) (Or.inl ⟨by rfl, ?_⟩) (by assumption) ?_
            rotate_left
            · (intro w hSw; (try dsimp only at hSw); go_simp; try with_reducible rfl)
            try simp only [Act.put, List.setIfInBounds_toArray, List.set_cons_zero, List.set_cons_succ]
            refine wpAnyT_one (i := 2) (by kernel_rfl) rfl (by kernel_rfl) (fun KK hKK => ?_)
            refine st_list rfl (ev_store rfl 121 _ _ rfl (w.heap.size + 1 + 1) #[Value.slice (some ⟨b0, off, none⟩) n c0, .int .i64 (fu : Int), .bool true, .int .i64 sh', .int .i64 (mk' : Int), .int .i64 dp', .slice A6 t'.length c6, .slice A7 sn'.length c7] rfl rfl info_sm (by rfl) (by simp [Value.oneCell']) ?_)
            intro w10 HS10 HE10
            refine ⟨rfl, ?_⟩
            refine hKK.out _ _ ⟨cb, cb, cb, cb, cb, cb, cb, cb, cb, cb, cb, cb, cb, cb, cb, cb, cb, cb, cb, cb, cb, cb, cb⟩ (fun hHeld => ?_)
            clear hKK KK
            try simp only [Act.put, List.setIfInBounds_toArray, List.set_cons_zero, List.set_cons_succ]
            refine wpAnyT_done (by kernel_rfl) ?_
            refine ev_store rfl 123 _ _ rfl (w.heap.size + 1 + 1 + 1) #[Value.int .i64 (kf : Int), .int .i64 dep, .int .i64 r'.a, .int .i64 r'.b, .int .i64 r'.c, .int .i64 r'.d, .slice A8 dfs'.length c8, .int .i64 ki', .int .i64 va', .bool lv', .bool df', .bool pg', .int .i64 pa', .bool rc', .int .i64 ou'] rfl rfl info_sf (by rfl) (by simp [Value.oneCell']) ?_
            intro w11 HS11 HE11
            go_wp2
            refine bodyPost_ret (v := .tuple #[mV (.slice (some ⟨b0, off, none⟩) n c0) (.slice A6 t'.length c6) (.slice A7 sn'.length c7) (fu : Int) (⟨true, sh', mk', dp', t', sn'⟩ : SM), fV (⟨(kf : Int), dep, r'.l, dfs', ki', va', lv', df', pg', pa', rc', ou'⟩ : SF) r' (.slice A8 dfs'.length c8)]) (by simp [results, Try.results103, go_sem]) rfl ?_
            exact CallP.of (m' := (⟨true, sh', mk', dp', t', sn'⟩ : SM)) (c' := (⟨(kf : Int), dep, r'.l, dfs', ki', va', lv', df', pg', pa', rc', ou'⟩ : SF)) (r := r') (vt := .slice A6 t'.length c6) (vs := .slice A7 sn'.length c7) (vd := .slice A8 dfs'.length c8) (k := dfs'.length) HQ.out rfl rfl (Post.mk' (Ent.sep (S := _) (T := Row 75 3 (.slice A6 t'.length c6) t'.length (cEvs t') * (Row 112 2 (.slice A7 sn'.length c7) sn'.length (cPr sn') * (Row 112 2 (.slice A8 dfs'.length c8) dfs'.length (cPr dfs') * (S)))) inferInstance inferInstance) inferInstance)
          have HIN2 := Hd.mk (HQR.out.2 rfl)
          clear HQR
          go_wp2
          go_roundg k
          case measure => have h1 := HIQ.out.2; have h2 := HK.out; omega
          case rel => exact ⟨sh', mk', dp', t', sn', r', dfs', ki', va', lv', df', pg', pa', rc', ou', A6, c6, A7, c7, A8, c8, inferInstance, ⟨HIN2.out.2, HIN2.out.1⟩, Ent.sep (S := _) inferInstance inferInstance⟩
end Go.Proofs.Ytobikkdnalnllaa
