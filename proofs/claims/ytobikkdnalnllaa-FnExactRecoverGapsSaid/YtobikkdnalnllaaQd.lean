/- The program's machine: steps that add, say, defer, panic. Conditions: lengths within bounds. -/
import Derived.Test.YtobikkdnalnllaaQc
import Derived.Test.YtobikkdnalnllaaQb
namespace Go.Proofs.Ytobikkdnalnllaa
open Go.RowKit SL
attribute [local go_sem] cell_blk frozen_blk lt_blk cell_at frozen_row lt_row
set_option linter.unusedVariables false
set_option linter.unusedSimpArgs false
theorem FM.open {w : World} {gm gf : Nat} {A : Option Addr} {n c : Nat} {fuel : Int} {m : Ma} {pv : Value} {f : Fr} {F : HP} (H : SepI w (Mach gm A n c fuel m * (FrH gf pv f * F))) :
    ∃ (y : FVs), f.regs = y.r.l ∧ SepI w (FrC gf pv f y (Mach gm A n c fuel m * F)) :=
  FrH.open (SepI.cast H (star_left _ _ _))
theorem FM.shut {w : World} {gm gf : Nat} {A : Option Addr} {n c : Nat} {fuel : Int} {m : Ma} {pv : Value} {f : Fr} {F : HP} (y : FVs) (hy : f.regs = y.r.l) (H : SepI w (FrC gf pv f y (Mach gm A n c fuel m * F))) :
    SepI w (Mach gm A n c fuel m * (FrH gf pv f * F)) :=
  SepI.cast (FrH.shut y hy H) (star_left _ _ _)
theorem star_out5 (a b c d e f g : HP) : a * (b * (c * (d * (e * (f * g))))) = f * (a * (b * (c * (d * (e * g))))) := by ac_rfl
set_option maxRecDepth 100000 in
set_option maxHeartbeats 4000000 in
theorem impl_step2 (S : HP) (w : World) (gm : Nat) (A : Option Addr) (n c : Nat) (fuel : Int) (m : Ma) (gf : Nat) (pv : Value) (f : Fr) [H : SepI w (Mach gm A n c fuel m * (FrH gf pv f * S))] (a b : Int) (ka : Nat) (hka : ka < 4) (kb : Nat) (hkb : kb < 4) (h16 : ∀ x ∈ f.regs, n16 x) :
    Calls Try.prog 159 #[.pointer (some ⟨gm, 0, none⟩), .pointer (some ⟨gf, 0, none⟩), .agg #[.int .i64 2, .int .i64 (ka : Int), .int .i64 (kb : Int)]] w (StepK S gm gf A n c fuel pv m { f with regs := regSet f.regs ka (w16 (regAt f.regs ka + regAt f.regs kb)) } false w) := by
  obtain ⟨⟨r, A0, c0⟩, hr, H1⟩ := FM.open H
  obtain ⟨id, fn, rg, rn, df, ct, lv, en, pa⟩ := f
  simp only at hr
  subst hr
  unfold FrC at H1
  simp only at H1
  clear H
  have b1 := regAt_ok h16 (ka : Int)
  have b2 := regAt_ok h16 (kb : Int)
  unfold n16 at b1 b2
  simp only at b1 b2
  have hw : IntKind.i64.wrap (regAt r.l ka + regAt r.l kb) = regAt r.l ka + regAt r.l kb := IntWalk.i64_in _ (by omega)
  have hw16 : IntKind.i64.wrap (w16 (regAt r.l ka + regAt r.l kb)) = w16 (regAt r.l ka + regAt r.l kb) := IntWalk.i64_in _ (by unfold w16; omega)
  have hw2 : IntKind.i16.wrap (regAt r.l ka + regAt r.l kb) = w16 (regAt r.l ka + regAt r.l kb) := by unfold w16; simp only [IntKind.wrap, IntKind.bits, IntKind.signed]; simp; omega
  clear h16 b1 b2
  have haI : (ka : Int) < 4 := by omega
  have hbI : (kb : Int) < 4 := by omega
  have hget : #[Value.int .i64 (id : Int), .int .i64 fn, .int .i64 r.a, .int .i64 r.b, .int .i64 r.c, .int .i64 r.d, .slice A0 rn.length c0, pv, .bool df, .bool ct, .bool lv, .int .i64 en, .int .i64 pa][2 + ka]? = some (.int .i64 (regAt r.l ka)) := frC_get (by omega)
  have hgeb : #[Value.int .i64 (id : Int), .int .i64 fn, .int .i64 r.a, .int .i64 r.b, .int .i64 r.c, .int .i64 r.d, .slice A0 rn.length c0, pv, .bool df, .bool ct, .bool lv, .int .i64 en, .int .i64 pa][2 + kb]? = some (.int .i64 (regAt r.l kb)) := frC_get (by omega)
  go_enter Try.func159, Try.ntmps159
  go_wp2
  refine wp_region_W 20 22 (by kernel_rfl) (by kernel_rfl) (fun w' => w'.cell? ⟨w.heap.size, 2, none⟩ = some (.int .i64 (kb : Int)) ∧ w'.cell? ⟨gf, 2 + ka, none⟩ = some (.int .i64 (regAt r.l ka)) ∧ w'.cell? ⟨gf, 2 + kb, none⟩ = some (.int .i64 (regAt r.l kb))) ⟨cb, (cell_blk _ _ _ _ _ _ _).trans hget, (cell_blk _ _ _ _ _ _ _).trans hgeb⟩ (fun hHeld => ?_)
  refine tkp 0 hHeld ?_
  refine tkp 1 hHeld ?_
  refine tkp 2 hHeld ?_
  refine tkp 3 hHeld ?_
  refine tkp 4 hHeld ?_
  refine tkp 5 hHeld ?_
  refine tkp 6 hHeld ?_
  refine tkl 7 hHeld ?_
  refine tkp 8 hHeld ?_
  refine tkp 9 hHeld ?_
  refine tkl 10 hHeld ?_
  refine tkp 11 hHeld ?_
  refine tkp 12 hHeld ?_
  refine tkp 13 hHeld ?_
  refine tkl 14 hHeld ?_
  refine tkp 15 hHeld ?_
  refine tkp 16 hHeld ?_
  refine tkp 17 hHeld ?_
  refine tkp 18 hHeld ?_
  refine tkp 19 hHeld ?_
  refine wpAnyW_done (by kernel_rfl) ?_
  go_wp2
  go_ret
  refine ⟨rfl, Post.mk' (FM.shut ⟨r.set ka (w16 (regAt r.l ka + regAt r.l kb)), A0, c0⟩ (R4s.set_l r hka _) (SepI.cast (Ent.sep (S := _) (T := pts gf (.cells (#[Value.int .i64 (id : Int), .int .i64 fn, .int .i64 r.a, .int .i64 r.b, .int .i64 r.c, .int .i64 r.d, .slice A0 rn.length c0, pv, .bool df, .bool ct, .bool lv, .int .i64 en, .int .i64 pa].setIfInBounds (2 + ka) (.int .i64 (w16 (regAt r.l ka + regAt r.l kb)))) 154 (0, 0)) * (Row 191 2 (.slice A0 rn.length c0) rn.length (cPr rn) * (Mach gm A n c fuel m * (S)))) inferInstance inferInstance) (by rw [frC_set hka]; rfl))) inferInstance⟩
set_option maxRecDepth 100000 in
set_option maxHeartbeats 4000000 in
theorem impl_step3 (S : HP) (w : World) (gm : Nat) (A : Option Addr) (n c : Nat) (fuel : Int) (m : Ma) (gf : Nat) (pv : Value) (f : Fr) [H : SepI w (Mach gm A n c fuel m * (FrH gf pv f * S))] (a b : Int) (ka : Nat) (hka : ka < 4) (ht : m.trace.length ≤ 1048576) (ho : m.owners.length ≤ 1048576) :
    Calls Try.prog 159 #[.pointer (some ⟨gm, 0, none⟩), .pointer (some ⟨gf, 0, none⟩), .agg #[.int .i64 3, .int .i64 (ka : Int), .int .i64 b]] w (StepK S gm gf A n c fuel pv (tellM m 4 f.fn (regAt f.regs ka) f.id) f false w) := by
  obtain ⟨⟨r, A0, c0⟩, hr, H1⟩ := FM.open H
  obtain ⟨id, fn, rg, rn, df, ct, lv, en, pa⟩ := f
  simp only at hr
  subst hr
  unfold FrC at H1
  simp only at H1
  clear H
  have haI : (ka : Int) < 4 := by omega
  have hget : #[Value.int .i64 (id : Int), .int .i64 fn, .int .i64 r.a, .int .i64 r.b, .int .i64 r.c, .int .i64 r.d, .slice A0 rn.length c0, pv, .bool df, .bool ct, .bool lv, .int .i64 en, .int .i64 pa][2 + ka]? = some (.int .i64 (regAt r.l ka)) := frC_get (by omega)
  go_enter Try.func159, Try.ntmps159
  go_wp2
  refine wp_region_W 15 16 (by kernel_rfl) (by kernel_rfl) (fun w' => w'.cell? ⟨gf, 1, none⟩ = some (.int .i64 fn) ∧ w'.cell? ⟨gf, 2 + ka, none⟩ = some (.int .i64 (regAt r.l ka)) ∧ w'.cell? ⟨gf, 0, none⟩ = some (.int .i64 (id : Int))) ⟨cb, (cell_blk _ _ _ _ _ _ _).trans hget, cb⟩ (fun hHeld => ?_)
  refine tkp 0 hHeld ?_
  refine tkp 1 hHeld ?_
  refine tkp 2 hHeld ?_
  refine tkp 3 hHeld ?_
  refine tkl 4 hHeld ?_
  refine tkp 5 hHeld ?_
  refine tkp 6 hHeld ?_
  refine tkp 7 hHeld ?_
  refine tkp 8 hHeld ?_
  refine tkp 9 hHeld ?_
  refine tkl 10 hHeld ?_
  refine tkp 11 hHeld ?_
  refine tkp 12 hHeld ?_
  refine tkp 13 hHeld ?_
  refine tkl 14 hHeld ?_
  refine wpAnyW_done (by kernel_rfl) ?_
  go_wp2_with (go_at_call 148; refine (@impl_tell (pts w.heap.size (.cells #[.int .i64 3, .int .i64 (ka : Int), .int .i64 b] 141 (0, 0)) * (pts gf (.cells #[Value.int .i64 (id : Int), .int .i64 fn, .int .i64 r.a, .int .i64 r.b, .int .i64 r.c, .int .i64 r.d, .slice A0 rn.length c0, pv, .bool df, .bool ct, .bool lv, .int .i64 en, .int .i64 pa] 154 (0, 0)) * (Row 191 2 (.slice A0 rn.length c0) rn.length (cPr rn) * (S)))) _ gm A n c fuel m (Ent.sep (S := _) inferInstance inferInstance) ht ho 4 fn (regAt r.l ka) id).mono ?_; rintro e w4 ⟨rfl, HP⟩; have HS4 := HP.sep; have HE4 := HP.ext; clear HP)
  go_wp2
  go_ret
  refine ⟨rfl, Post.mk' (FM.shut ⟨r, A0, c0⟩ rfl (SepI.cast (Ent.sep (S := _) (T := pts gf (.cells #[Value.int .i64 (id : Int), .int .i64 fn, .int .i64 r.a, .int .i64 r.b, .int .i64 r.c, .int .i64 r.d, .slice A0 rn.length c0, pv, .bool df, .bool ct, .bool lv, .int .i64 en, .int .i64 pa] 154 (0, 0)) * (Row 191 2 (.slice A0 rn.length c0) rn.length (cPr rn) * (Mach gm A n c fuel (tellM m 4 fn (regAt r.l ka) id) * (S)))) inferInstance inferInstance) (by rfl))) inferInstance⟩
set_option maxRecDepth 100000 in
set_option maxHeartbeats 4000000 in
theorem impl_step5 (S : HP) (w : World) (gm : Nat) (A : Option Addr) (n c : Nat) (fuel : Int) (m : Ma) (gf : Nat) (pv : Value) (f : Fr) [H : SepI w (Mach gm A n c fuel m * (FrH gf pv f * S))] (a b : Int) (kb : Nat) (hkb : kb < 4) (ht : m.trace.length ≤ 1048576) (ho : m.owners.length ≤ 1048576) (hrn : f.runs.length ≤ 1048576) :
    Calls Try.prog 159 #[.pointer (some ⟨gm, 0, none⟩), .pointer (some ⟨gf, 0, none⟩), .agg #[.int .i64 5, .int .i64 a, .int .i64 (kb : Int)]] w (StepK S gm gf A n c fuel pv (tellM m 2 a (regAt f.regs kb) f.id) { f with runs := f.runs ++ [(a, regAt f.regs kb)] } false w) := by
  obtain ⟨⟨r, A0, c0⟩, hr, H1⟩ := FM.open H
  obtain ⟨id, fn, rg, rn, df, ct, lv, en, pa⟩ := f
  simp only at hr
  subst hr
  unfold FrC at H1
  simp only at H1
  clear H
  simp only at hrn
  have hbI : (kb : Int) < 4 := by omega
  have hgeb : #[Value.int .i64 (id : Int), .int .i64 fn, .int .i64 r.a, .int .i64 r.b, .int .i64 r.c, .int .i64 r.d, .slice A0 rn.length c0, pv, .bool df, .bool ct, .bool lv, .int .i64 en, .int .i64 pa][2 + kb]? = some (.int .i64 (regAt r.l kb)) := frC_get (by omega)
  obtain ⟨rn', HR⟩ : ∃ q : List (Int × Int), Hd (q = rn ++ [(a, regAt r.l kb)]) := ⟨_, ⟨rfl⟩⟩
  have HR1 : Hd (rn.length + 1 = rn'.length) := ⟨by rw [HR.out, List.length_append]; rfl⟩
  have HR2 : Hd (cPr rn ++ #[Value.int .i64 a, .int .i64 (regAt r.l kb)].toList = cPr rn') := ⟨by rw [HR.out, cPr_snoc]⟩
  rw [← HR.out]
  clear HR
  go_enter Try.func159, Try.ntmps159
  go_wp2
  refine wp_region_W 17 20 (by kernel_rfl) (by kernel_rfl) (fun w' => w'.cell? ⟨gf, 6, none⟩ = some (.slice A0 rn.length c0) ∧ w'.cell? ⟨w.heap.size, 1, none⟩ = some (.int .i64 a) ∧ w'.cell? ⟨w.heap.size, 2, none⟩ = some (.int .i64 (kb : Int)) ∧ w'.cell? ⟨gf, 2 + kb, none⟩ = some (.int .i64 (regAt r.l kb))) ⟨cb, cb, cb, (cell_blk _ _ _ _ _ _ _).trans hgeb⟩ (fun hHeld => ?_)
  refine tkp 0 hHeld ?_
  refine tkp 1 hHeld ?_
  refine tkp 2 hHeld ?_
  refine tkp 3 hHeld ?_
  refine tkl 4 hHeld ?_
  refine tkp 5 hHeld ?_
  refine tkl 6 hHeld ?_
  refine tkp 7 hHeld ?_
  refine tkp 8 hHeld ?_
  refine tkl 9 hHeld ?_
  refine tkp 10 hHeld ?_
  refine tkp 11 hHeld ?_
  refine tkp 12 hHeld ?_
  refine tkl 13 hHeld ?_
  refine tkp 14 hHeld ?_
  refine wpAnyW_one false (i := 15) (by kernel_rfl) rfl (by kernel_rfl) (by rfl) (fun KK hKK => ?_)
  refine st_list rfl ?_
  go_wp2
  refine ⟨rfl, ?_⟩
  refine hKK.out _ _ (.inr ⟨cb, cb, cb, (cell_blk _ _ _ _ _ _ _).trans hgeb⟩) (fun hHeld => ?_)
  clear hKK KK
  try simp only [Act.put, List.setIfInBounds_toArray, List.set_cons_zero, List.set_cons_succ]
  refine wpAnyW_one false (i := 16) (by kernel_rfl) rfl (by kernel_rfl) (by rfl) (fun KK hKK => ?_)
  refine st_list rfl (ev_append (v := .slice A0 rn.length c0) rfl _ _ 152 rfl rfl 16 _ Try.underlying152 info_pd rfl (by decide) (by decide) _ 1 1 rfl rfl (by simp [Value.oneCell']) (by omega) ?_)
  intro v5 w5 HS5 HE5
  replace HS5 := Row.as HS5 HR1.out HR2.out
  obtain ⟨A7, c7, rfl, hc7, hc7'⟩ := Row.form HS5
  clear hc7 hc7'
  refine ⟨rfl, ?_⟩
  refine hKK.out _ _ (.inr ⟨cb, cb, cb, (cell_blk _ _ _ _ _ _ _).trans hgeb⟩) (fun hHeld => ?_)
  clear hKK KK
  try simp only [Act.put, List.setIfInBounds_toArray, List.set_cons_zero, List.set_cons_succ]
  refine wpAnyW_done (by kernel_rfl) ?_
  have hgeb2 : #[Value.int .i64 (id : Int), .int .i64 fn, .int .i64 r.a, .int .i64 r.b, .int .i64 r.c, .int .i64 r.d, .slice A7 rn'.length c7, pv, .bool df, .bool ct, .bool lv, .int .i64 en, .int .i64 pa][2 + kb]? = some (.int .i64 (regAt r.l kb)) := frC_get (by omega)
  go_wp2
  refine wp_region_W 14 15 (by kernel_rfl) (by kernel_rfl) (fun w' => w'.cell? ⟨w.heap.size, 1, none⟩ = some (.int .i64 a) ∧ w'.cell? ⟨w.heap.size, 2, none⟩ = some (.int .i64 (kb : Int)) ∧ w'.cell? ⟨gf, 2 + kb, none⟩ = some (.int .i64 (regAt r.l kb)) ∧ w'.cell? ⟨gf, 0, none⟩ = some (.int .i64 (id : Int))) ⟨cb, cb, (cell_blk _ _ _ _ _ _ _).trans hgeb2, cb⟩ (fun hHeld => ?_)
  refine tkp 0 hHeld ?_
  refine tkp 1 hHeld ?_
  refine tkl 2 hHeld ?_
  refine tkp 3 hHeld ?_
  refine tkp 4 hHeld ?_
  refine tkl 5 hHeld ?_
  refine tkp 6 hHeld ?_
  refine tkp 7 hHeld ?_
  refine tkp 8 hHeld ?_
  refine tkl 9 hHeld ?_
  refine tkp 10 hHeld ?_
  refine tkp 11 hHeld ?_
  refine tkp 12 hHeld ?_
  refine tkl 13 hHeld ?_
  refine wpAnyW_done (by kernel_rfl) ?_
  go_wp2_with (go_at_call 148; refine (@impl_tell (pts w.heap.size (.cells #[.int .i64 5, .int .i64 a, .int .i64 (kb : Int)] 141 (0, 0)) * (pts gf (.cells (#[Value.int .i64 (id : Int), .int .i64 fn, .int .i64 r.a, .int .i64 r.b, .int .i64 r.c, .int .i64 r.d, .slice A0 rn.length c0, pv, .bool df, .bool ct, .bool lv, .int .i64 en, .int .i64 pa].setIfInBounds 6 (.slice A7 rn'.length c7)) 154 (0, 0)) * (Row 191 2 (.slice A7 rn'.length c7) rn'.length (cPr rn') * (S)))) _ gm A n c fuel m (Ent.sep (S := _) inferInstance inferInstance) ht ho 2 a (regAt r.l kb) id).mono ?_; rintro e w4 ⟨rfl, HP⟩; have HS4 := HP.sep; have HE4 := HP.ext; clear HP)
  go_wp2
  go_ret
  refine ⟨rfl, Post.mk' (FM.shut ⟨r, A7, c7⟩ rfl (SepI.cast (Ent.sep (S := _) (T := pts gf (.cells (#[Value.int .i64 (id : Int), .int .i64 fn, .int .i64 r.a, .int .i64 r.b, .int .i64 r.c, .int .i64 r.d, .slice A0 rn.length c0, pv, .bool df, .bool ct, .bool lv, .int .i64 en, .int .i64 pa].setIfInBounds 6 (.slice A7 rn'.length c7)) 154 (0, 0)) * (Row 191 2 (.slice A7 rn'.length c7) rn'.length (cPr rn') * (Mach gm A n c fuel (tellM m 2 a (regAt r.l kb) id) * (S)))) inferInstance inferInstance) (by rfl))) inferInstance⟩
set_option maxRecDepth 100000 in
set_option maxHeartbeats 4000000 in
theorem impl_step6 (S : HP) (w : World) (gm : Nat) (A : Option Addr) (n c : Nat) (fuel : Int) (m : Ma) (gf : Nat) (pv : Value) (f : Fr) [H : SepI w (Mach gm A n c fuel m * (FrH gf pv f * S))] (a b : Int) (ka : Nat) (hka : ka < 4) (ht : m.trace.length ≤ 1048576) (ho : m.owners.length ≤ 1048576) (hpn : m.panics.length ≤ 1048576) :
    Calls Try.prog 159 #[.pointer (some ⟨gm, 0, none⟩), .pointer (some ⟨gf, 0, none⟩), .agg #[.int .i64 6, .int .i64 (ka : Int), .int .i64 b]] w (StepK S gm gf A n c fuel pv (tellM { m with panics := m.panics ++ [⟨f.id, f.fn, regAt f.regs ka, m.depth, 0, -1, -1, f.ct, []⟩] } 5 f.fn (regAt f.regs ka) f.id) { f with en := 2, pa := m.panics.length } true w) := by
  obtain ⟨⟨A1, c1, A2, c2, A3, c3, A4, c4, A5, c5, bm, ps⟩, ⟨r, A0, c0⟩, hps, hr, H1⟩ := MF.open H
  obtain ⟨mk, sh, dep, deep, t, ow, cl, pn, rs⟩ := m
  obtain ⟨id, fn, rg, rn, df, ct, lv, en, pa⟩ := f
  simp only at hps hr
  subst hps hr
  unfold FrC MachC at H1
  simp only at H1
  clear H
  simp only [List.length_map] at ht ho hpn
  have haI : (ka : Int) < 4 := by omega
  have hget : #[Value.int .i64 (id : Int), .int .i64 fn, .int .i64 r.a, .int .i64 r.b, .int .i64 r.c, .int .i64 r.d, .slice A0 rn.length c0, pv, .bool df, .bool ct, .bool lv, .int .i64 2, .int .i64 (ps.length : Int)][2 + ka]? = some (.int .i64 (regAt r.l ka)) := frC_get (by omega)
  obtain ⟨ps', HP0⟩ : ∃ q : List Pv, Hd (q = ps ++ [⟨⟨id, fn, regAt r.l ka, dep, 0, -1, -1, ct, []⟩, .slice none 0 0⟩]) := ⟨_, ⟨rfl⟩⟩
  have HR1 : Hd (ps.length + 1 = ps'.length) := ⟨by rw [HP0.out, List.length_append]; rfl⟩
  have HR2 : Hd (cPvs ps ++ #[Value.int .i64 (id : Int), .int .i64 fn, .int .i64 (regAt r.l ka), .int .i64 (dep : Int), .int .i64 0, .int .i64 (-1), .int .i64 (-1), .bool ct, .slice none 0 0].toList = cPvs ps') := ⟨by rw [HP0.out, cPvs_snoc]; rfl⟩
  have HR3 : Hd (ps.map (·.p) ++ [⟨id, fn, regAt r.l ka, dep, 0, -1, -1, ct, []⟩] = ps'.map (·.p)) := ⟨by rw [HP0.out, List.map_append]; rfl⟩
  have HR4 : ∀ F w, SepI w (stars (ps.map unH) * F) → SepI w (stars (ps'.map unH) * F) := fun F w h => by
    rw [HP0.out, List.map_append, List.map_cons, List.map_nil, stars_snoc, star_assoc]
    exact Row.nil0 h _ _
  have HRR := Hd.mk HR4
  have HLN : Hd ((ps.map (·.p)).length = ps.length) := ⟨List.length_map _⟩
  rw [HLN.out]
  have e3 : ((⟨mk, sh, dep, deep, t, ow, cl, ps.map (·.p) ++ [⟨id, fn, regAt r.l ka, dep, 0, -1, -1, ct, []⟩], rs⟩ : Ma) : Ma) = (⟨mk, sh, dep, deep, t, ow, cl, ps'.map (·.p), rs⟩ : Ma) := by rw [← HR3.out]
  have HM : Hd (((⟨mk, sh, dep, deep, t, ow, cl, ps.map (·.p) ++ [⟨id, fn, regAt r.l ka, dep, 0, -1, -1, ct, []⟩], rs⟩ : Ma) : Ma) = (⟨mk, sh, dep, deep, t, ow, cl, ps'.map (·.p), rs⟩ : Ma)) := ⟨e3⟩
  clear e3 HP0 HR4
  show Calls _ _ _ _ (StepK _ _ _ _ _ _ _ _ (tellM ((⟨mk, sh, dep, deep, t, ow, cl, ps.map (·.p) ++ [⟨id, fn, regAt r.l ka, dep, 0, -1, -1, ct, []⟩], rs⟩ : Ma) : Ma) 5 fn (regAt r.l ka) id) _ _ _)
  rw [HM.out]
  go_enter Try.func159, Try.ntmps159
  go_wp2
  refine wp_region_W 30 33 (by kernel_rfl) (by kernel_rfl) (fun w' => w'.cell? ⟨gm, 9, none⟩ = some (.slice A4 ps.length c4) ∧ w'.cell? ⟨gf, 0, none⟩ = some (.int .i64 (id : Int)) ∧ w'.cell? ⟨gf, 1, none⟩ = some (.int .i64 fn) ∧ w'.cell? ⟨gf, 2 + ka, none⟩ = some (.int .i64 (regAt r.l ka)) ∧ w'.cell? ⟨gm, 4, none⟩ = some (.int .i64 (dep : Int)) ∧ w'.cell? ⟨gf, 9, none⟩ = some (.bool ct)) ⟨cb, cb, cb, (cell_blk _ _ _ _ _ _ _).trans hget, cb, cb⟩ (fun hHeld => ?_)
  refine tkp 0 hHeld ?_
  refine tkp 1 hHeld ?_
  refine tkp 2 hHeld ?_
  refine tkp 3 hHeld ?_
  refine tkl 4 hHeld ?_
  refine tkp 5 hHeld ?_
  refine tkp 6 hHeld ?_
  refine tkp 7 hHeld ?_
  refine tkl 8 hHeld ?_
  refine tkp 9 hHeld ?_
  refine tkp 10 hHeld ?_
  refine tkp 11 hHeld ?_
  refine tkl 12 hHeld ?_
  refine tkp 13 hHeld ?_
  refine tkp 14 hHeld ?_
  refine tkp 15 hHeld ?_
  refine tkp 16 hHeld ?_
  refine tkp 17 hHeld ?_
  refine tkl 18 hHeld ?_
  refine tkp 19 hHeld ?_
  refine tkp 20 hHeld ?_
  refine tkp 21 hHeld ?_
  refine tkl 22 hHeld ?_
  refine tkp 23 hHeld ?_
  refine tkp 24 hHeld ?_
  refine tkp 25 hHeld ?_
  refine tkl 26 hHeld ?_
  refine tkp 27 hHeld ?_
  refine wpAnyW_one false (i := 28) (by kernel_rfl) rfl (by kernel_rfl) (by rfl) (fun KK hKK => ?_)
  refine st_list rfl ?_
  go_wp2
  refine ⟨rfl, ?_⟩
  refine hKK.out _ _ (.inr ⟨cb, cb, cb, (cell_blk _ _ _ _ _ _ _).trans hget, cb, cb⟩) (fun hHeld => ?_)
  clear hKK KK
  try simp only [Act.put, List.setIfInBounds_toArray, List.set_cons_zero, List.set_cons_succ]
  refine wpAnyW_one false (i := 29) (by kernel_rfl) rfl (by kernel_rfl) (by rfl) (fun KK hKK => ?_)
  refine st_list rfl (ev_append (v := .slice A4 ps.length c4) rfl _ _ 94 rfl rfl 88 _ Try.underlying94 info_pn rfl (by decide) (by decide) _ 1 1 rfl rfl (by simp [Value.oneCell']) (by omega) ?_)
  intro v5 w5 HS5 HE5
  replace HS5 := Row.as HS5 HR1.out HR2.out
  obtain ⟨A7, c7, rfl, hc7, hc7'⟩ := Row.form HS5
  clear hc7 hc7'
  refine ⟨rfl, ?_⟩
  refine hKK.out _ _ (.inr ⟨cb, cb, cb, (cell_blk _ _ _ _ _ _ _).trans hget, cb, cb⟩) (fun hHeld => ?_)
  clear hKK KK
  try simp only [Act.put, List.setIfInBounds_toArray, List.set_cons_zero, List.set_cons_succ]
  refine wpAnyW_done (by kernel_rfl) ?_
  go_wp2
  refine wp_region_W 15 16 (by kernel_rfl) (by kernel_rfl) (fun w' => w'.cell? ⟨gf, 1, none⟩ = some (.int .i64 fn) ∧ w'.cell? ⟨gf, 2 + ka, none⟩ = some (.int .i64 (regAt r.l ka)) ∧ w'.cell? ⟨gf, 0, none⟩ = some (.int .i64 (id : Int))) ⟨cb, (cell_blk _ _ _ _ _ _ _).trans hget, cb⟩ (fun hHeld => ?_)
  refine tkp 0 hHeld ?_
  refine tkp 1 hHeld ?_
  refine tkp 2 hHeld ?_
  refine tkp 3 hHeld ?_
  refine tkl 4 hHeld ?_
  refine tkp 5 hHeld ?_
  refine tkp 6 hHeld ?_
  refine tkp 7 hHeld ?_
  refine tkp 8 hHeld ?_
  refine tkp 9 hHeld ?_
  refine tkl 10 hHeld ?_
  refine tkp 11 hHeld ?_
  refine tkp 12 hHeld ?_
  refine tkp 13 hHeld ?_
  refine tkl 14 hHeld ?_
  refine wpAnyW_done (by kernel_rfl) ?_
  go_wp2_with (go_at_call 148; refine (@impl_tell (pts w.heap.size (.cells #[.int .i64 6, .int .i64 (ka : Int), .int .i64 b] 141 (0, 0)) * (pts gf (.cells ((#[Value.int .i64 (id : Int), .int .i64 fn, .int .i64 r.a, .int .i64 r.b, .int .i64 r.c, .int .i64 r.d, .slice A0 rn.length c0, pv, .bool df, .bool ct, .bool lv, .int .i64 en, .int .i64 pa].setIfInBounds 11 (.int .i64 2)).setIfInBounds 12 (.int .i64 (ps.length : Int))) 154 (0, 0)) * (Row 191 2 (.slice A0 rn.length c0) rn.length (cPr rn) * (S)))) _ gm A n c fuel (⟨mk, sh, dep, deep, t, ow, cl, ps'.map (·.p), rs⟩ : Ma) (Mach.shut ⟨A1, c1, A2, c2, A3, c3, A7, c7, A5, c5, bm, ps'⟩ rfl (SepI.cast (HRR.out _ _ (SepI.cast (Ent.sep (S := _) (T := pts gm (.cells (#[Value.slice A n c, .int .i64 fuel, .int .i64 (mk : Int), .int .i64 sh, .int .i64 (dep : Int), .int .i64 (deep : Int), .slice A1 t.length c1, .slice A2 ow.length c2, .slice A3 cl.length c3, .slice A4 ps.length c4, .slice A5 rs.length c5, .map (some bm), .int .i64 0, .int .i64 0, .slice none 0 0, .int .i64 0].setIfInBounds 9 (.slice A7 ps'.length c7)) 98 (0, 0)) * (Row 75 3 (.slice A1 t.length c1) t.length (cEvs t) * (Row 3 1 (.slice A2 ow.length c2) ow.length (ints ow) * (Row 92 6 (.slice A3 cl.length c3) cl.length (cCis cl) * (Row 78 9 (.slice A7 ps'.length c7) ps'.length (cPvs ps') * (stars (ps.map unH) * (Row 90 3 (.slice A5 rs.length c5) rs.length (cRcs rs) * (MapH bm mk * (pts w.heap.size (.cells #[.int .i64 6, .int .i64 (ka : Int), .int .i64 b] 141 (0, 0)) * (pts gf (.cells ((#[Value.int .i64 (id : Int), .int .i64 fn, .int .i64 r.a, .int .i64 r.b, .int .i64 r.c, .int .i64 r.d, .slice A0 rn.length c0, pv, .bool df, .bool ct, .bool lv, .int .i64 en, .int .i64 pa].setIfInBounds 11 (.int .i64 2)).setIfInBounds 12 (.int .i64 (ps.length : Int))) 154 (0, 0)) * (Row 191 2 (.slice A0 rn.length c0) rn.length (cPr rn) * (S)))))))))))) inferInstance inferInstance) (star_out5 _ _ _ _ _ _ _))) (by unfold MachC; first | rfl | ac_rfl))) ht ho 5 fn (regAt r.l ka) id).mono ?_; rintro e w4 ⟨rfl, HP⟩; have HS4 := HP.sep; have HE4 := HP.ext; clear HP)
  go_wp2
  go_ret
  refine ⟨rfl, Post.mk' (FM.shut ⟨r, A0, c0⟩ rfl (SepI.cast (Ent.sep (S := _) (T := pts gf (.cells ((#[Value.int .i64 (id : Int), .int .i64 fn, .int .i64 r.a, .int .i64 r.b, .int .i64 r.c, .int .i64 r.d, .slice A0 rn.length c0, pv, .bool df, .bool ct, .bool lv, .int .i64 en, .int .i64 pa].setIfInBounds 11 (.int .i64 2)).setIfInBounds 12 (.int .i64 (ps.length : Int))) 154 (0, 0)) * (Row 191 2 (.slice A0 rn.length c0) rn.length (cPr rn) * (Mach gm A n c fuel (tellM (⟨mk, sh, dep, deep, t, ow, cl, ps'.map (·.p), rs⟩ : Ma) 5 fn (regAt r.l ka) id) * (S)))) inferInstance inferInstance) (by rfl))) inferInstance⟩
end Go.Proofs.Ytobikkdnalnllaa
namespace Go.Proofs.Ytobikkdnalnllaa
open Go.RowKit SL
attribute [local go_sem] cell_blk frozen_blk lt_blk cell_at frozen_row lt_row
set_option linter.unusedVariables false
set_option linter.unusedSimpArgs false
theorem MFP.open {w : World} {gm gf gp : Nat} {A : Option Addr} {n c : Nat} {fuel : Int} {m : Ma} {pv up : Value} {f p : Fr} {F : HP} (H : SepI w (Mach gm A n c fuel m * (FrH gf pv f * (FrH gp up p * F)))) :
    ∃ (x : MVs) (y z : FVs), x.ps.map (·.p) = m.panics ∧ f.regs = y.r.l ∧ p.regs = z.r.l ∧ SepI w (FrC gf pv f y (FrC gp up p z (MachC gm A n c fuel m x F))) := by
  obtain ⟨x, y, hx, hy, H1⟩ := MF.open H
  have H2 : SepI w (FrH gp up p * FrC gf pv f y (MachC gm A n c fuel m x F)) := SepI.cast H1 (by unfold FrC MachC; ac_rfl)
  obtain ⟨z, hz, H3⟩ := FrH.open H2
  exact ⟨x, y, z, hx, hy, hz, SepI.cast H3 (by unfold FrC; ac_rfl)⟩
theorem MFP.shut {w : World} {gm gf gp : Nat} {A : Option Addr} {n c : Nat} {fuel : Int} {m : Ma} {pv up : Value} {f p : Fr} {F : HP} (x : MVs) (y z : FVs) (hx : x.ps.map (·.p) = m.panics) (hy : f.regs = y.r.l) (hz : p.regs = z.r.l) (H : SepI w (FrC gf pv f y (FrC gp up p z (MachC gm A n c fuel m x F)))) :
    SepI w (Mach gm A n c fuel m * (FrH gf pv f * (FrH gp up p * F))) := by
  have H2 : SepI w (FrC gp up p z (FrC gf pv f y (MachC gm A n c fuel m x F))) := SepI.cast H (by unfold FrC; ac_rfl)
  have H3 := FrH.shut z hz H2
  exact MF.shut x y hx hy (SepI.cast H3 (by unfold FrC MachC; ac_rfl))
theorem FMP.open {w : World} {gm gf gp : Nat} {A : Option Addr} {n c : Nat} {fuel : Int} {m : Ma} {pv up : Value} {f p : Fr} {F : HP} (H : SepI w (Mach gm A n c fuel m * (FrH gf pv f * (FrH gp up p * F)))) :
    ∃ (y z : FVs), f.regs = y.r.l ∧ p.regs = z.r.l ∧ SepI w (FrC gf pv f y (FrC gp up p z (Mach gm A n c fuel m * F))) := by
  obtain ⟨y, hy, H1⟩ := FM.open H
  have H2 : SepI w (FrH gp up p * FrC gf pv f y (Mach gm A n c fuel m * F)) := SepI.cast H1 (by unfold FrC; ac_rfl)
  obtain ⟨z, hz, H3⟩ := FrH.open H2
  exact ⟨y, z, hy, hz, SepI.cast H3 (by unfold FrC; ac_rfl)⟩
theorem FMP.shut {w : World} {gm gf gp : Nat} {A : Option Addr} {n c : Nat} {fuel : Int} {m : Ma} {pv up : Value} {f p : Fr} {F : HP} (y z : FVs) (hy : f.regs = y.r.l) (hz : p.regs = z.r.l) (H : SepI w (FrC gf pv f y (FrC gp up p z (Mach gm A n c fuel m * F)))) :
    SepI w (Mach gm A n c fuel m * (FrH gf pv f * (FrH gp up p * F))) := by
  have H2 : SepI w (FrC gp up p z (FrC gf pv f y (Mach gm A n c fuel m * F))) := SepI.cast H (by unfold FrC; ac_rfl)
  have H3 := FrH.shut z hz H2
  exact FM.shut y hy (SepI.cast H3 (by unfold FrC; ac_rfl))
/-- What recover leaves. -/
def DoneF (S : HP) (gm gf : Nat) (A : Option Addr) (n c : Nat) (fuel : Int) (pv : Value) (m : Ma) (f : Fr) (w : World) (e : Ending) (w' : World) : Prop := e = .returned (.tuple #[]) ∧ Post w (Mach gm A n c fuel m * (FrH gf pv f * S)) w'
theorem pn_get {ps : List Pv} {k : Nat} (h : k < ps.length) : ∃ x, ps[k]? = some x := ⟨ps[k], by simp [h]⟩
theorem un_set {ps : List Pv} {k : Nat} {x y : Pv} (h : ps[k]? = some x) (e : unH y = unH x) : (ps.set k y).map unH = ps.map unH := by
  rw [List.map_set, e]
  apply List.ext_getElem?
  intro i
  rw [List.getElem?_set]
  split
  · rename_i h'
    subst h'
    rw [List.getElem?_map, h]
    simp
    exact (List.getElem?_eq_some_iff.1 h).1
  · rfl
theorem pn_set {m : Ma} {ps : List Pv} (hm : ps.map (·.p) = m.panics) {a : Int} {k : Nat} {x : Pv} (hk : a.toNat = k) (h : ps[k]? = some x) (g : Pn → Pn) : pnSet m a g = { m with panics := (ps.set k ⟨g x.p, x.u⟩).map (·.p) } := by
  unfold pnSet pnAt
  rw [← hm, hk, List.getD_eq_getElem?_getD, List.getElem?_map, h, List.map_set]
  rfl
theorem pn_at {m : Ma} {ps : List Pv} (hm : ps.map (·.p) = m.panics) {a : Int} {k : Nat} {x : Pv} (hk : a.toNat = k) (h : ps[k]? = some x) : pnAt m a = x.p := by
  unfold pnAt
  rw [← hm, hk, List.getD_eq_getElem?_getD, List.getElem?_map, h]
  rfl
set_option maxRecDepth 100000 in
set_option maxHeartbeats 8000000 in
theorem impl_recover_a (S : HP) (w : World) (gm : Nat) (A : Option Addr) (n c : Nat) (fuel : Int) (m : Ma) (gf : Nat) (pv : Value) (f : Fr) [H : SepI w (Mach gm A n c fuel m * (FrH gf pv f * S))] (ka : Nat) (hka : ka < 4) (hd : f.df = false) :
    Calls Try.prog 161 #[.pointer (some ⟨gm, 0, none⟩), .pointer (some ⟨gf, 0, none⟩), .int .i64 (ka : Int)] w (DoneF S gm gf A n c fuel pv m { f with regs := regSet (regSet f.regs ka 0) 3 0 } w) := by
  obtain ⟨⟨r, A0, c0⟩, hr, H1⟩ := FM.open H
  obtain ⟨id, fn, rg, rn, df, ct, lv, en, pa⟩ := f
  simp only at hr
  subst hr
  unfold FrC at H1
  simp only at H1
  clear H
  simp only at hd
  subst hd
  have haI : (ka : Int) < 4 := by omega
  have hget : #[Value.int .i64 (id : Int), .int .i64 fn, .int .i64 r.a, .int .i64 r.b, .int .i64 r.c, .int .i64 r.d, .slice A0 rn.length c0, pv, .bool false, .bool ct, .bool lv, .int .i64 en, .int .i64 pa][2 + ka]? = some (.int .i64 (regAt r.l ka)) := frC_get (by omega)
  have hset : #[Value.int .i64 (id : Int), .int .i64 fn, .int .i64 r.a, .int .i64 r.b, .int .i64 r.c, .int .i64 r.d, .slice A0 rn.length c0, pv, .bool false, .bool ct, .bool lv, .int .i64 en, .int .i64 pa].setIfInBounds (2 + ka) (.int .i64 0) = #[Value.int .i64 (id : Int), .int .i64 fn, .int .i64 (r.set ka 0).a, .int .i64 (r.set ka 0).b, .int .i64 (r.set ka 0).c, .int .i64 (r.set ka 0).d, .slice A0 rn.length c0, pv, .bool false, .bool ct, .bool lv, .int .i64 en, .int .i64 pa] := frC_set hka
  go_enter Try.func161, Try.ntmps161
  go_wp2
  refine wp_region_W 9 6 (by kernel_rfl) (by kernel_rfl) (fun w' => w'.cell? ⟨gf, 2 + ka, none⟩ = some (.int .i64 (regAt r.l ka))) ((cell_blk _ _ _ _ _ _ _).trans hget) (fun hHeld => ?_)
  refine tkp 0 hHeld ?_
  refine tkp 1 hHeld ?_
  refine tkp 2 hHeld ?_
  refine tkp 3 hHeld ?_
  refine tkp 4 hHeld ?_
  refine tkp 5 hHeld ?_
  refine tkp 7 hHeld ?_
  refine tkp 8 hHeld ?_
  refine wpAnyW_one true (i := 6) (by kernel_rfl) rfl (by kernel_rfl) (by rfl) (fun KK hKK => ?_)
  refine st_list rfl ?_
  go_wp2
  refine ⟨rfl, ?_⟩
  refine hKK.out _ _ (.inl rfl) (fun hHeld => ?_)
  clear hKK KK
  try simp only [Act.put, List.setIfInBounds_toArray, List.set_cons_zero, List.set_cons_succ]
  refine wpAnyW_done (by kernel_rfl) ?_
  go_wp2
  first | go_end0 | refine bodyPost_ret (results_none rfl _ _ _) rfl ?_
  refine ⟨rfl, Post.mk' (FM.shut ⟨(r.set ka 0).set 3 0, A0, c0⟩ ((congrArg (regSet · 3 0) (R4s.set_l r hka 0)).trans (R4s.set_l _ (k := 3) (by decide) 0)) (SepI.cast (Ent.sep (S := _) (T := pts gf (.cells ((#[Value.int .i64 (id : Int), .int .i64 fn, .int .i64 r.a, .int .i64 r.b, .int .i64 r.c, .int .i64 r.d, .slice A0 rn.length c0, pv, .bool false, .bool ct, .bool lv, .int .i64 en, .int .i64 pa].setIfInBounds (2 + ka) (.int .i64 0)).setIfInBounds 5 (.int .i64 0)) 154 (0, 0)) * (Row 191 2 (.slice A0 rn.length c0) rn.length (cPr rn) * (Mach gm A n c fuel m * (S)))) inferInstance inferInstance) (by rw [frC_set hka]; rfl))) inferInstance⟩
set_option maxRecDepth 100000 in
set_option maxHeartbeats 8000000 in
theorem impl_recover_b (S : HP) (w : World) (gm : Nat) (A : Option Addr) (n c : Nat) (fuel : Int) (m : Ma) (gf : Nat) (pv : Value) (f : Fr) [H : SepI w (Mach gm A n c fuel m * (FrH gf pv f * S))] (ka : Nat) (hka : ka < 4) (hd : f.df = true ∧ f.ct = true) :
    Calls Try.prog 161 #[.pointer (some ⟨gm, 0, none⟩), .pointer (some ⟨gf, 0, none⟩), .int .i64 (ka : Int)] w (DoneF S gm gf A n c fuel pv m { f with regs := regSet (regSet f.regs ka 0) 3 0 } w) := by
  obtain ⟨⟨r, A0, c0⟩, hr, H1⟩ := FM.open H
  obtain ⟨id, fn, rg, rn, df, ct, lv, en, pa⟩ := f
  simp only at hr
  subst hr
  unfold FrC at H1
  simp only at H1
  clear H
  simp only at hd
  obtain ⟨rfl, rfl⟩ := hd
  have haI : (ka : Int) < 4 := by omega
  have hget : #[Value.int .i64 (id : Int), .int .i64 fn, .int .i64 r.a, .int .i64 r.b, .int .i64 r.c, .int .i64 r.d, .slice A0 rn.length c0, pv, .bool true, .bool true, .bool lv, .int .i64 en, .int .i64 pa][2 + ka]? = some (.int .i64 (regAt r.l ka)) := frC_get (by omega)
  have hset : #[Value.int .i64 (id : Int), .int .i64 fn, .int .i64 r.a, .int .i64 r.b, .int .i64 r.c, .int .i64 r.d, .slice A0 rn.length c0, pv, .bool true, .bool true, .bool lv, .int .i64 en, .int .i64 pa].setIfInBounds (2 + ka) (.int .i64 0) = #[Value.int .i64 (id : Int), .int .i64 fn, .int .i64 (r.set ka 0).a, .int .i64 (r.set ka 0).b, .int .i64 (r.set ka 0).c, .int .i64 (r.set ka 0).d, .slice A0 rn.length c0, pv, .bool true, .bool true, .bool lv, .int .i64 en, .int .i64 pa] := frC_set hka
  go_enter Try.func161, Try.ntmps161
  go_wp2
  refine wp_region_W 9 6 (by kernel_rfl) (by kernel_rfl) (fun w' => w'.cell? ⟨gf, 2 + ka, none⟩ = some (.int .i64 (regAt r.l ka))) ((cell_blk _ _ _ _ _ _ _).trans hget) (fun hHeld => ?_)
  refine tkp 0 hHeld ?_
  refine tkp 1 hHeld ?_
  refine tkp 2 hHeld ?_
  refine tkp 3 hHeld ?_
  refine tkp 4 hHeld ?_
  refine tkp 5 hHeld ?_
  refine tkp 7 hHeld ?_
  refine tkp 8 hHeld ?_
  refine wpAnyW_one true (i := 6) (by kernel_rfl) rfl (by kernel_rfl) (by rfl) (fun KK hKK => ?_)
  refine st_list rfl ?_
  go_wp2
  refine ⟨rfl, ?_⟩
  refine hKK.out _ _ (.inl rfl) (fun hHeld => ?_)
  clear hKK KK
  try simp only [Act.put, List.setIfInBounds_toArray, List.set_cons_zero, List.set_cons_succ]
  refine wpAnyW_done (by kernel_rfl) ?_
  go_wp2
  first | go_end0 | refine bodyPost_ret (results_none rfl _ _ _) rfl ?_
  refine ⟨rfl, Post.mk' (FM.shut ⟨(r.set ka 0).set 3 0, A0, c0⟩ ((congrArg (regSet · 3 0) (R4s.set_l r hka 0)).trans (R4s.set_l _ (k := 3) (by decide) 0)) (SepI.cast (Ent.sep (S := _) (T := pts gf (.cells ((#[Value.int .i64 (id : Int), .int .i64 fn, .int .i64 r.a, .int .i64 r.b, .int .i64 r.c, .int .i64 r.d, .slice A0 rn.length c0, pv, .bool true, .bool true, .bool lv, .int .i64 en, .int .i64 pa].setIfInBounds (2 + ka) (.int .i64 0)).setIfInBounds 5 (.int .i64 0)) 154 (0, 0)) * (Row 191 2 (.slice A0 rn.length c0) rn.length (cPr rn) * (Mach gm A n c fuel m * (S)))) inferInstance inferInstance) (by rw [frC_set hka]; rfl))) inferInstance⟩
set_option maxRecDepth 100000 in
set_option maxHeartbeats 8000000 in
theorem impl_recover_c (S : HP) (w : World) (gm : Nat) (A : Option Addr) (n c : Nat) (fuel : Int) (m : Ma) (gf : Nat) (gp : Nat) (up : Value) (f : Fr) (p : Fr) [H : SepI w (Mach gm A n c fuel m * (FrH gf (.pointer (some ⟨gp, 0, none⟩)) f * (FrH gp up p * S)))] (ka : Nat) (hka : ka < 4) (hd : f.df = true ∧ f.ct = false) (he : p.en ≠ 2) :
    Calls Try.prog 161 #[.pointer (some ⟨gm, 0, none⟩), .pointer (some ⟨gf, 0, none⟩), .int .i64 (ka : Int)] w (DoneF (FrH gp up p * S) gm gf A n c fuel (.pointer (some ⟨gp, 0, none⟩)) m { f with regs := regSet (regSet f.regs ka 0) 3 0 } w) := by
  obtain ⟨⟨r, A0, c0⟩, ⟨rp, A9, c9⟩, hr, hrp, H1⟩ := FMP.open H
  obtain ⟨id, fn, rg, rn, df, ct, lv, en, pa⟩ := f
  obtain ⟨idp, fnp, rgp, rnp, dfp, ctp, lvp, enp, pap⟩ := p
  simp only at hr hrp
  subst hr hrp
  unfold FrC at H1
  simp only at H1
  clear H
  simp only at hd he
  obtain ⟨rfl, rfl⟩ := hd
  have hen : (enp == 2) = false := beq_eq_false_iff_ne.2 he
  have hen2 : (enp != 2) = true := by rw [bne, hen]; rfl
  clear he
  have haI : (ka : Int) < 4 := by omega
  have hget : #[Value.int .i64 (id : Int), .int .i64 fn, .int .i64 r.a, .int .i64 r.b, .int .i64 r.c, .int .i64 r.d, .slice A0 rn.length c0, .pointer (some ⟨gp, 0, none⟩), .bool true, .bool false, .bool lv, .int .i64 en, .int .i64 pa][2 + ka]? = some (.int .i64 (regAt r.l ka)) := frC_get (by omega)
  have hset : #[Value.int .i64 (id : Int), .int .i64 fn, .int .i64 r.a, .int .i64 r.b, .int .i64 r.c, .int .i64 r.d, .slice A0 rn.length c0, .pointer (some ⟨gp, 0, none⟩), .bool true, .bool false, .bool lv, .int .i64 en, .int .i64 pa].setIfInBounds (2 + ka) (.int .i64 0) = #[Value.int .i64 (id : Int), .int .i64 fn, .int .i64 (r.set ka 0).a, .int .i64 (r.set ka 0).b, .int .i64 (r.set ka 0).c, .int .i64 (r.set ka 0).d, .slice A0 rn.length c0, .pointer (some ⟨gp, 0, none⟩), .bool true, .bool false, .bool lv, .int .i64 en, .int .i64 pa] := frC_set hka
  go_enter Try.func161, Try.ntmps161
  go_wp2
  refine wp_region_W 9 6 (by kernel_rfl) (by kernel_rfl) (fun w' => w'.cell? ⟨gf, 2 + ka, none⟩ = some (.int .i64 (regAt r.l ka))) ((cell_blk _ _ _ _ _ _ _).trans hget) (fun hHeld => ?_)
  refine tkp 0 hHeld ?_
  refine tkp 1 hHeld ?_
  refine tkp 2 hHeld ?_
  refine tkp 3 hHeld ?_
  refine tkp 4 hHeld ?_
  refine tkp 5 hHeld ?_
  refine tkp 7 hHeld ?_
  refine tkp 8 hHeld ?_
  refine wpAnyW_one true (i := 6) (by kernel_rfl) rfl (by kernel_rfl) (by rfl) (fun KK hKK => ?_)
  refine st_list rfl ?_
  go_wp2
  refine ⟨rfl, ?_⟩
  refine hKK.out _ _ (.inl rfl) (fun hHeld => ?_)
  clear hKK KK
  try simp only [Act.put, List.setIfInBounds_toArray, List.set_cons_zero, List.set_cons_succ]
  refine wpAnyW_done (by kernel_rfl) ?_
  go_wp2
  first | go_end0 | refine bodyPost_ret (results_none rfl _ _ _) rfl ?_
  refine ⟨rfl, Post.mk' (FMP.shut ⟨(r.set ka 0).set 3 0, A0, c0⟩ ⟨rp, A9, c9⟩ ((congrArg (regSet · 3 0) (R4s.set_l r hka 0)).trans (R4s.set_l _ (k := 3) (by decide) 0)) rfl (SepI.cast (Ent.sep (S := _) (T := pts gf (.cells ((#[Value.int .i64 (id : Int), .int .i64 fn, .int .i64 r.a, .int .i64 r.b, .int .i64 r.c, .int .i64 r.d, .slice A0 rn.length c0, .pointer (some ⟨gp, 0, none⟩), .bool true, .bool false, .bool lv, .int .i64 en, .int .i64 pa].setIfInBounds (2 + ka) (.int .i64 0)).setIfInBounds 5 (.int .i64 0)) 154 (0, 0)) * (Row 191 2 (.slice A0 rn.length c0) rn.length (cPr rn) * (pts gp (.cells #[Value.int .i64 (idp : Int), .int .i64 fnp, .int .i64 rp.a, .int .i64 rp.b, .int .i64 rp.c, .int .i64 rp.d, .slice A9 rnp.length c9, up, .bool dfp, .bool ctp, .bool lvp, .int .i64 enp, .int .i64 pap] 154 (0, 0)) * (Row 191 2 (.slice A9 rnp.length c9) rnp.length (cPr rnp) * (Mach gm A n c fuel m * (S)))))) inferInstance inferInstance) (by rw [frC_set hka]; rfl))) inferInstance⟩
end Go.Proofs.Ytobikkdnalnllaa
namespace Go.Proofs.Ytobikkdnalnllaa
open Go.RowKit SL
attribute [local go_sem] cell_blk frozen_blk lt_blk cell_at frozen_row lt_row
set_option linter.unusedVariables false
set_option linter.unusedSimpArgs false
set_option maxRecDepth 100000 in
set_option maxHeartbeats 8000000 in
theorem impl_recover_d (S : HP) (w : World) (gm : Nat) (A : Option Addr) (n c : Nat) (fuel : Int) (m : Ma) (gf : Nat) (gp : Nat) (up : Value) (f p : Fr) [H : SepI w (Mach gm A n c fuel m * (FrH gf (.pointer (some ⟨gp, 0, none⟩)) f * (FrH gp up p * S)))] (ka : Nat) (hka : ka < 4) (hd : f.df = true ∧ f.ct = false) (he : p.en = 2) (hpa : 0 ≤ p.pa ∧ p.pa.toNat < m.panics.length) (ht : m.trace.length ≤ 1048576) (ho : m.owners.length ≤ 1048576) (hrc : m.recs.length ≤ 1048576) :
    Calls Try.prog 161 #[.pointer (some ⟨gm, 0, none⟩), .pointer (some ⟨gf, 0, none⟩), .int .i64 (ka : Int)] w (DoneF (FrH gp up p * S) gm gf A n c fuel (.pointer (some ⟨gp, 0, none⟩)) (tellM { pnSet m p.pa (fun x => { x with fa := 1 }) with recs := m.recs ++ [⟨f.id, p.id, p.pa⟩] } 6 f.fn (pnAt m p.pa).va f.id) { f with ct := true, regs := regSet (regSet f.regs ka (pnAt m p.pa).va) 3 1 } w) := by
  obtain ⟨⟨A1, c1, A2, c2, A3, c3, A4, c4, A5, c5, bm, ps⟩, ⟨r, A0, c0⟩, ⟨rp, A9, c9⟩, hps, hr, hrp, H1⟩ := MFP.open H
  obtain ⟨mk, sh, dep, deep, t, ow, cl, pn, rs⟩ := m
  obtain ⟨id, fn, rg, rn, df, ct, lv, en, pa⟩ := f
  obtain ⟨idp, fnp, rgp, rnp, dfp, ctp, lvp, enp, pap⟩ := p
  simp only at hps hr hrp
  subst hps hr hrp
  unfold FrC MachC at H1
  simp only at H1
  clear H
  simp only at hd he hpa ht ho hrc
  obtain ⟨rfl, rfl⟩ := hd
  subst he
  obtain ⟨k, rfl⟩ : ∃ k : Nat, pap = k := ⟨pap.toNat, by omega⟩
  rw [Int.toNat_natCast, List.length_map] at hpa
  obtain ⟨x, hx⟩ := pn_get hpa.2
  obtain ⟨g4, rfl⟩ := Row.addr (SepI.pickR H1 (inferInstance : PickR _ _ _ (.slice A4 ps.length c4) _ _ _)) (by omega)
  obtain ⟨np, hnp⟩ : ∃ np, np = ps.length := ⟨_, rfl⟩
  rw [← hnp] at H1 hpa
  have hkn : (k : Int) < np := by omega
  obtain ⟨⟨ca, fx, va, de, fa, by_, la, ag, un⟩, u⟩ := x
  obtain ⟨ps', HP0⟩ : ∃ q : List Pv, Hd (q = ps.set k ⟨⟨ca, fx, va, de, 1, by_, la, ag, un⟩, u⟩) := ⟨_, ⟨rfl⟩⟩
  have HPA : Hd (pnAt (⟨mk, sh, dep, deep, t, ow, cl, ps.map (·.p), rs⟩ : Ma) (k : Int) = (⟨ca, fx, va, de, fa, by_, la, ag, un⟩ : Pn)) := ⟨pn_at rfl (Int.toNat_natCast k) hx⟩
  have HPS : Hd (pnSet (⟨mk, sh, dep, deep, t, ow, cl, ps.map (·.p), rs⟩ : Ma) (k : Int) (fun x => { x with fa := 1 }) = (⟨mk, sh, dep, deep, t, ow, cl, ps'.map (·.p), rs⟩ : Ma)) := ⟨by rw [HP0.out]; exact pn_set rfl (Int.toNat_natCast k) hx _⟩
  have HCS : Hd ((cPvs ps).set (k * 9 + 4) (.int .i64 1) = cPvs ps') := ⟨by rw [HP0.out]; exact cPvs_set hx (by omega) rfl⟩
  have HUN : Hd (ps'.map unH = ps.map unH) := ⟨by rw [HP0.out]; exact un_set hx rfl⟩
  have HLN : Hd (np = ps'.length) := ⟨by rw [HP0.out, List.length_set]; exact hnp⟩
  have hx' : ps'[k]? = some ⟨⟨ca, fx, va, de, 1, by_, la, ag, un⟩, u⟩ := by rw [HP0.out]; exact List.getElem?_set_self (by omega)
  have d1 : ∀ F, CellAt (Row 78 9 (.slice (some ⟨g4, 0, none⟩) np c4) np (cPvs ps) * F) g4 (k * 9 + 4) (.int .i64 fa) := fun F => Row.cellAt (by rw [cPvs_get hx (by omega)]; rfl)
  have d2 : ∀ F, CellAt (Row 78 9 (.slice (some ⟨g4, 0, none⟩) np c4) np ((cPvs ps).set (k * 9 + 4) (.int .i64 1)) * F) g4 (k * 9 + 2) (.int .i64 va) := fun F => Row.cellAt (by rw [HCS.out, cPvs_get hx' (by omega)]; rfl)
  have d3 : ∀ F, CellAt (Row 78 9 (.slice (some ⟨g4, 0, none⟩) np c4) np (cPvs ps') * F) g4 (k * 9 + 2) (.int .i64 va) := fun F => Row.cellAt (by rw [cPvs_get hx' (by omega)]; rfl)
  obtain ⟨rs', HR0⟩ : ∃ q : List Rc, Hd (q = rs ++ [⟨(id : Int), (idp : Int), (k : Int)⟩]) := ⟨_, ⟨rfl⟩⟩
  have HR1 : Hd (rs.length + 1 = rs'.length) := ⟨by rw [HR0.out, List.length_append]; rfl⟩
  have HR2 : Hd (cRcs rs ++ #[Value.int .i64 (id : Int), .int .i64 (idp : Int), .int .i64 (k : Int)].toList = cRcs rs') := ⟨by rw [HR0.out, cRcs_snoc]; rfl⟩
  show Calls _ _ _ _ (DoneF _ _ _ _ _ _ _ _ (tellM { pnSet (⟨mk, sh, dep, deep, t, ow, cl, ps.map (·.p), rs⟩ : Ma) (k : Int) (fun x => { x with fa := 1 }) with recs := rs ++ [⟨(id : Int), (idp : Int), (k : Int)⟩] } 6 fn (pnAt (⟨mk, sh, dep, deep, t, ow, cl, ps.map (·.p), rs⟩ : Ma) (k : Int)).va id) (⟨id, fn, regSet (regSet r.l ka (pnAt (⟨mk, sh, dep, deep, t, ow, cl, ps.map (·.p), rs⟩ : Ma) (k : Int)).va) 3 1, rn, true, true, lv, en, pa⟩ : Fr) _)
  rw [HPA.out, HPS.out, ← HR0.out]
  clear HP0 HPA HPS hx hx' hnp HR0
  have haI : (ka : Int) < 4 := by omega
  have hget : #[Value.int .i64 (id : Int), .int .i64 fn, .int .i64 r.a, .int .i64 r.b, .int .i64 r.c, .int .i64 r.d, .slice A0 rn.length c0, .pointer (some ⟨gp, 0, none⟩), .bool true, .bool true, .bool lv, .int .i64 en, .int .i64 pa][2 + ka]? = some (.int .i64 (regAt r.l ka)) := frC_get (by omega)
  have hset : #[Value.int .i64 (id : Int), .int .i64 fn, .int .i64 r.a, .int .i64 r.b, .int .i64 r.c, .int .i64 r.d, .slice A0 rn.length c0, .pointer (some ⟨gp, 0, none⟩), .bool true, .bool true, .bool lv, .int .i64 en, .int .i64 pa].setIfInBounds (2 + ka) (.int .i64 va) = #[Value.int .i64 (id : Int), .int .i64 fn, .int .i64 ((r.set ka va)).a, .int .i64 ((r.set ka va)).b, .int .i64 ((r.set ka va)).c, .int .i64 ((r.set ka va)).d, .slice A0 rn.length c0, .pointer (some ⟨gp, 0, none⟩), .bool true, .bool true, .bool lv, .int .i64 en, .int .i64 pa] := frC_set hka
  go_enter Try.func161, Try.ntmps161
  go_wp2
  refine wp_region_W 11 13 (by kernel_rfl) (by kernel_rfl) (fun w' => w'.cell? ⟨gm, 9, none⟩ = some (.slice (some ⟨g4, 0, none⟩) np c4) ∧ w'.cell? ⟨gf, 7, none⟩ = some (.pointer (some ⟨gp, 0, none⟩)) ∧ w'.cell? ⟨gp, 12, none⟩ = some (.int .i64 (k : Int))) ⟨cb, cb, cb⟩ (fun hHeld => ?_)
  refine tkp 0 hHeld ?_
  refine tkp 1 hHeld ?_
  refine tkp 2 hHeld ?_
  refine tkl 3 hHeld ?_
  refine tkp 4 hHeld ?_
  refine tkp 5 hHeld ?_
  refine tkp 6 hHeld ?_
  refine tkl 7 hHeld ?_
  refine tkp 8 hHeld ?_
  refine tkp 9 hHeld ?_
  refine tkl 10 hHeld ?_
  refine wpAnyW_done (by kernel_rfl) ?_
  go_wp2
  refine wp_region_W 8 10 (by kernel_rfl) (by kernel_rfl) (fun w' => w'.cell? ⟨g4, k * 9 + 2, none⟩ = some (.int .i64 va)) (by exact cell_at _ _ _ _ _) (fun hHeld => ?_)
  refine tkp 0 hHeld ?_
  refine tkp 1 hHeld ?_
  refine tkp 2 hHeld ?_
  refine tkp 3 hHeld ?_
  refine tkp 4 hHeld ?_
  refine tkl 5 hHeld ?_
  refine tkp 6 hHeld ?_
  refine tkp 7 hHeld ?_
  refine wpAnyW_done (by kernel_rfl) ?_
  go_upto_region 6 with fail
  go_cut [] (fun wx => ExtI w wx ∧ SepI wx (pts gf (.cells #[Value.int .i64 (id : Int), .int .i64 fn, .int .i64 (((r.set ka va).set 3 1)).a, .int .i64 (((r.set ka va).set 3 1)).b, .int .i64 (((r.set ka va).set 3 1)).c, .int .i64 (((r.set ka va).set 3 1)).d, .slice A0 rn.length c0, .pointer (some ⟨gp, 0, none⟩), .bool true, .bool true, .bool lv, .int .i64 en, .int .i64 pa] 154 (0, 0)) * (Row 191 2 (.slice A0 rn.length c0) rn.length (cPr rn) * (pts gp (.cells #[Value.int .i64 (idp : Int), .int .i64 fnp, .int .i64 rp.a, .int .i64 rp.b, .int .i64 rp.c, .int .i64 rp.d, .slice A9 rnp.length c9, up, .bool dfp, .bool ctp, .bool lvp, .int .i64 2, .int .i64 (k : Int)] 154 (0, 0)) * (Row 191 2 (.slice A9 rnp.length c9) rnp.length (cPr rnp) * (pts gm (.cells #[Value.slice A n c, .int .i64 fuel, .int .i64 (mk : Int), .int .i64 sh, .int .i64 (dep : Int), .int .i64 (deep : Int), .slice A1 t.length c1, .slice A2 ow.length c2, .slice A3 cl.length c3, .slice (some ⟨g4, 0, none⟩) np c4, .slice A5 rs.length c5, .map (some bm), .int .i64 0, .int .i64 0, .slice none 0 0, .int .i64 0] 98 (0, 0)) * (Row 75 3 (.slice A1 t.length c1) t.length (cEvs t) * (Row 3 1 (.slice A2 ow.length c2) ow.length (ints ow) * (Row 92 6 (.slice A3 cl.length c3) cl.length (cCis cl) * (Row 78 9 (.slice (some ⟨g4, 0, none⟩) np c4) np (cPvs ps') * (stars (ps.map unH) * (Row 90 3 (.slice A5 rs.length c5) rs.length (cRcs rs) * (MapH bm mk * (S))))))))))))))
  case first =>
    go_wp2
    go_meet
    exact ⟨inferInstance, SepI.cast (Ent.sep (S := _) (T := pts gf (.cells ((((frC (id : Int) fn r (.slice A0 rn.length c0) (.pointer (some ⟨gp, 0, none⟩)) true false lv en pa).setIfInBounds 9 (.bool true)).setIfInBounds (2 + ka) (.int .i64 va)).setIfInBounds 5 (.int .i64 1)) 154 (0, 0)) * (Row 191 2 (.slice A0 rn.length c0) rn.length (cPr rn) * (pts gp (.cells #[Value.int .i64 (idp : Int), .int .i64 fnp, .int .i64 rp.a, .int .i64 rp.b, .int .i64 rp.c, .int .i64 rp.d, .slice A9 rnp.length c9, up, .bool dfp, .bool ctp, .bool lvp, .int .i64 2, .int .i64 (k : Int)] 154 (0, 0)) * (Row 191 2 (.slice A9 rnp.length c9) rnp.length (cPr rnp) * (pts gm (.cells #[Value.slice A n c, .int .i64 fuel, .int .i64 (mk : Int), .int .i64 sh, .int .i64 (dep : Int), .int .i64 (deep : Int), .slice A1 t.length c1, .slice A2 ow.length c2, .slice A3 cl.length c3, .slice (some ⟨g4, 0, none⟩) np c4, .slice A5 rs.length c5, .map (some bm), .int .i64 0, .int .i64 0, .slice none 0 0, .int .i64 0] 98 (0, 0)) * (Row 75 3 (.slice A1 t.length c1) t.length (cEvs t) * (Row 3 1 (.slice A2 ow.length c2) ow.length (ints ow) * (Row 92 6 (.slice A3 cl.length c3) cl.length (cCis cl) * (Row 78 9 (.slice (some ⟨g4, 0, none⟩) np c4) np ((cPvs ps).set (k * 9 + 4) (.int .i64 1)) * (stars (ps.map unH) * (Row 90 3 (.slice A5 rs.length c5) rs.length (cRcs rs) * (MapH bm mk * (S))))))))))))) inferInstance inferInstance) (by rw [HCS.out, show (frC (id : Int) fn r (.slice A0 rn.length c0) (.pointer (some ⟨gp, 0, none⟩)) true false lv en pa).setIfInBounds 9 (.bool true) = frC (id : Int) fn r (.slice A0 rn.length c0) (.pointer (some ⟨gp, 0, none⟩)) true true lv en pa from rfl, frC_set hka]; rfl)⟩
  case rest =>
  obtain ⟨HEc, HSc⟩ := hcut
  clear d1 d2 H1
  go_wp2
  refine wp_region_W 26 29 (by kernel_rfl) (by kernel_rfl) (fun w' => w'.cell? ⟨gm, 10, none⟩ = some (.slice A5 rs.length c5) ∧ w'.cell? ⟨gf, 0, none⟩ = some (.int .i64 (id : Int)) ∧ w'.cell? ⟨gf, 7, none⟩ = some (.pointer (some ⟨gp, 0, none⟩)) ∧ w'.cell? ⟨gp, 0, none⟩ = some (.int .i64 (idp : Int)) ∧ w'.cell? ⟨gp, 12, none⟩ = some (.int .i64 (k : Int))) ⟨cb, cb, cb, cb, cb⟩ (fun hHeld => ?_)
  refine tkp 0 hHeld ?_
  refine tkp 1 hHeld ?_
  refine tkp 2 hHeld ?_
  refine tkp 3 hHeld ?_
  refine tkl 4 hHeld ?_
  refine tkp 5 hHeld ?_
  refine tkp 6 hHeld ?_
  refine tkp 7 hHeld ?_
  refine tkl 8 hHeld ?_
  refine tkp 9 hHeld ?_
  refine tkp 10 hHeld ?_
  refine tkp 11 hHeld ?_
  refine tkl 12 hHeld ?_
  refine tkp 13 hHeld ?_
  refine tkp 14 hHeld ?_
  refine tkl 15 hHeld ?_
  refine tkp 16 hHeld ?_
  refine tkp 17 hHeld ?_
  refine tkp 18 hHeld ?_
  refine tkl 19 hHeld ?_
  refine tkp 20 hHeld ?_
  refine tkp 21 hHeld ?_
  refine tkl 22 hHeld ?_
  refine tkp 23 hHeld ?_
  refine wpAnyW_one false (i := 24) (by kernel_rfl) rfl (by kernel_rfl) (by rfl) (fun KK hKK => ?_)
  refine st_list rfl ?_
  go_wp2
  refine ⟨rfl, ?_⟩
  refine hKK.out _ _ (.inr ⟨cb, cb, cb, cb, cb⟩) (fun hHeld => ?_)
  clear hKK KK
  try simp only [Act.put, List.setIfInBounds_toArray, List.set_cons_zero, List.set_cons_succ]
  refine wpAnyW_one false (i := 25) (by kernel_rfl) rfl (by kernel_rfl) (by rfl) (fun KK hKK => ?_)
  refine st_list rfl (ev_append (v := .slice A5 rs.length c5) rfl _ _ 95 rfl rfl 24 _ Try.underlying95 info_rc rfl (by decide) (by decide) _ 1 1 rfl rfl (by simp [Value.oneCell']) (by omega) ?_)
  intro v5 w5 HS5 HE5
  replace HS5 := Row.as HS5 HR1.out HR2.out
  obtain ⟨A7, c7, rfl, hc7, hc7'⟩ := Row.form HS5
  clear hc7 hc7'
  refine ⟨rfl, ?_⟩
  refine hKK.out _ _ (.inr ⟨cb, cb, cb, cb, cb⟩) (fun hHeld => ?_)
  clear hKK KK
  try simp only [Act.put, List.setIfInBounds_toArray, List.set_cons_zero, List.set_cons_succ]
  refine wpAnyW_done (by kernel_rfl) ?_
  go_wp2
  refine wp_region_W 13 14 (by kernel_rfl) (by kernel_rfl) (fun w' => w'.cell? ⟨gf, 1, none⟩ = some (.int .i64 fn) ∧ w'.cell? ⟨gf, 0, none⟩ = some (.int .i64 (id : Int)) ∧ w'.cell? ⟨g4, k * 9 + 2, none⟩ = some (.int .i64 va)) ⟨cb, cb, cell_at _ _ _ _ _⟩ (fun hHeld => ?_)
  refine tkp 0 hHeld ?_
  refine tkp 1 hHeld ?_
  refine tkp 2 hHeld ?_
  refine tkp 3 hHeld ?_
  refine tkl 4 hHeld ?_
  refine tkp 5 hHeld ?_
  refine tkp 6 hHeld ?_
  refine tkp 7 hHeld ?_
  refine tkl 8 hHeld ?_
  refine tkp 9 hHeld ?_
  refine tkp 10 hHeld ?_
  refine tkp 11 hHeld ?_
  refine tkl 12 hHeld ?_
  refine wpAnyW_done (by kernel_rfl) ?_
  go_wp2_with (go_at_call 148; refine (@impl_tell (pts gf (.cells #[Value.int .i64 (id : Int), .int .i64 fn, .int .i64 (((r.set ka va).set 3 1)).a, .int .i64 (((r.set ka va).set 3 1)).b, .int .i64 (((r.set ka va).set 3 1)).c, .int .i64 (((r.set ka va).set 3 1)).d, .slice A0 rn.length c0, .pointer (some ⟨gp, 0, none⟩), .bool true, .bool true, .bool lv, .int .i64 en, .int .i64 pa] 154 (0, 0)) * (Row 191 2 (.slice A0 rn.length c0) rn.length (cPr rn) * (pts gp (.cells #[Value.int .i64 (idp : Int), .int .i64 fnp, .int .i64 rp.a, .int .i64 rp.b, .int .i64 rp.c, .int .i64 rp.d, .slice A9 rnp.length c9, up, .bool dfp, .bool ctp, .bool lvp, .int .i64 2, .int .i64 (k : Int)] 154 (0, 0)) * (Row 191 2 (.slice A9 rnp.length c9) rnp.length (cPr rnp) * (S))))) _ gm A n c fuel (⟨mk, sh, dep, deep, t, ow, cl, ps'.map (·.p), rs'⟩ : Ma) (Mach.shut ⟨A1, c1, A2, c2, A3, c3, some ⟨g4, 0, none⟩, c4, A7, c7, bm, ps'⟩ rfl (SepI.cast (Ent.sep (S := _) (T := pts gm (.cells (#[Value.slice A n c, .int .i64 fuel, .int .i64 (mk : Int), .int .i64 sh, .int .i64 (dep : Int), .int .i64 (deep : Int), .slice A1 t.length c1, .slice A2 ow.length c2, .slice A3 cl.length c3, .slice (some ⟨g4, 0, none⟩) np c4, .slice A5 rs.length c5, .map (some bm), .int .i64 0, .int .i64 0, .slice none 0 0, .int .i64 0].setIfInBounds 10 (.slice A7 rs'.length c7)) 98 (0, 0)) * (Row 75 3 (.slice A1 t.length c1) t.length (cEvs t) * (Row 3 1 (.slice A2 ow.length c2) ow.length (ints ow) * (Row 92 6 (.slice A3 cl.length c3) cl.length (cCis cl) * (Row 78 9 (.slice (some ⟨g4, 0, none⟩) np c4) np (cPvs ps') * (stars (ps.map unH) * (Row 90 3 (.slice A7 rs'.length c7) rs'.length (cRcs rs') * (MapH bm mk * (pts gf (.cells #[Value.int .i64 (id : Int), .int .i64 fn, .int .i64 (((r.set ka va).set 3 1)).a, .int .i64 (((r.set ka va).set 3 1)).b, .int .i64 (((r.set ka va).set 3 1)).c, .int .i64 (((r.set ka va).set 3 1)).d, .slice A0 rn.length c0, .pointer (some ⟨gp, 0, none⟩), .bool true, .bool true, .bool lv, .int .i64 en, .int .i64 pa] 154 (0, 0)) * (Row 191 2 (.slice A0 rn.length c0) rn.length (cPr rn) * (pts gp (.cells #[Value.int .i64 (idp : Int), .int .i64 fnp, .int .i64 rp.a, .int .i64 rp.b, .int .i64 rp.c, .int .i64 rp.d, .slice A9 rnp.length c9, up, .bool dfp, .bool ctp, .bool lvp, .int .i64 2, .int .i64 (k : Int)] 154 (0, 0)) * (Row 191 2 (.slice A9 rnp.length c9) rnp.length (cPr rnp) * (S))))))))))))) inferInstance inferInstance) (by unfold MachC; simp only []; rw [HUN.out, ← HLN.out]; rfl))) ht ho 6 fn va id).mono ?_; rintro e w4 ⟨rfl, HP⟩; have HS4 := HP.sep; have HE4 := HP.ext; clear HP)
  go_wp2
  go_end0
  refine ⟨rfl, Post.mk' (FMP.shut ⟨((r.set ka va).set 3 1), A0, c0⟩ ⟨rp, A9, c9⟩ ((congrArg (regSet · 3 1) (R4s.set_l r hka va)).trans (R4s.set_l _ (k := 3) (by decide) 1)) rfl (SepI.cast (Ent.sep (S := _) (T := pts gf (.cells #[Value.int .i64 (id : Int), .int .i64 fn, .int .i64 (((r.set ka va).set 3 1)).a, .int .i64 (((r.set ka va).set 3 1)).b, .int .i64 (((r.set ka va).set 3 1)).c, .int .i64 (((r.set ka va).set 3 1)).d, .slice A0 rn.length c0, .pointer (some ⟨gp, 0, none⟩), .bool true, .bool true, .bool lv, .int .i64 en, .int .i64 pa] 154 (0, 0)) * (Row 191 2 (.slice A0 rn.length c0) rn.length (cPr rn) * (pts gp (.cells #[Value.int .i64 (idp : Int), .int .i64 fnp, .int .i64 rp.a, .int .i64 rp.b, .int .i64 rp.c, .int .i64 rp.d, .slice A9 rnp.length c9, up, .bool dfp, .bool ctp, .bool lvp, .int .i64 2, .int .i64 (k : Int)] 154 (0, 0)) * (Row 191 2 (.slice A9 rnp.length c9) rnp.length (cPr rnp) * (Mach gm A n c fuel (tellM (⟨mk, sh, dep, deep, t, ow, cl, ps'.map (·.p), rs'⟩ : Ma) 6 fn va id) * (S)))))) inferInstance inferInstance) (by rfl))) inferInstance⟩
end Go.Proofs.Ytobikkdnalnllaa
namespace Go.Proofs.Ytobikkdnalnllaa
open Go.RowKit SL
attribute [local go_sem] cell_blk frozen_blk lt_blk cell_at frozen_row lt_row
set_option linter.unusedVariables false
set_option linter.unusedSimpArgs false
set_option maxRecDepth 100000 in
set_option maxHeartbeats 4000000 in
theorem impl_step7a (S : HP) (w : World) (gm : Nat) (A : Option Addr) (n c : Nat) (fuel : Int) (m : Ma) (gf : Nat) (pv : Value) (f : Fr) [H : SepI w (Mach gm A n c fuel m * (FrH gf pv f * S))] (b : Int) (ka : Nat) (hka : ka < 4) (hd : f.df = false) :
    Calls Try.prog 159 #[.pointer (some ⟨gm, 0, none⟩), .pointer (some ⟨gf, 0, none⟩), .agg #[.int .i64 7, .int .i64 (ka : Int), .int .i64 b]] w (StepK S gm gf A n c fuel pv m { f with regs := regSet (regSet f.regs ka 0) 3 0 } false w) := by
  have haI : (ka : Int) < 4 := by omega
  go_enter Try.func159, Try.ntmps159
  go_wp2_with (go_at_call 161; refine (@impl_recover_a (pts w.heap.size (.cells #[.int .i64 7, .int .i64 (ka : Int), .int .i64 b] 141 (0, 0)) * S) _ gm A n c fuel m gf pv f (SepI.cast (S := _) inferInstance (by ac_rfl)) ka hka hd).mono ?_; rintro e w4 ⟨rfl, HP⟩; have HS4 := HP.sep; have HE4 := HP.ext; clear HP)
  go_ret
  exact ⟨rfl, Post.mk' (Ent.sep (S := _) (T := Mach gm A n c fuel m * (FrH gf pv { f with regs := regSet (regSet f.regs ka 0) 3 0 } * S)) inferInstance inferInstance) inferInstance⟩
set_option maxRecDepth 100000 in
set_option maxHeartbeats 4000000 in
theorem impl_step7b (S : HP) (w : World) (gm : Nat) (A : Option Addr) (n c : Nat) (fuel : Int) (m : Ma) (gf : Nat) (pv : Value) (f : Fr) [H : SepI w (Mach gm A n c fuel m * (FrH gf pv f * S))] (b : Int) (ka : Nat) (hka : ka < 4) (hd : f.df = true ∧ f.ct = true) :
    Calls Try.prog 159 #[.pointer (some ⟨gm, 0, none⟩), .pointer (some ⟨gf, 0, none⟩), .agg #[.int .i64 7, .int .i64 (ka : Int), .int .i64 b]] w (StepK S gm gf A n c fuel pv m { f with regs := regSet (regSet f.regs ka 0) 3 0 } false w) := by
  have haI : (ka : Int) < 4 := by omega
  go_enter Try.func159, Try.ntmps159
  go_wp2_with (go_at_call 161; refine (@impl_recover_b (pts w.heap.size (.cells #[.int .i64 7, .int .i64 (ka : Int), .int .i64 b] 141 (0, 0)) * S) _ gm A n c fuel m gf pv f (SepI.cast (S := _) inferInstance (by ac_rfl)) ka hka hd).mono ?_; rintro e w4 ⟨rfl, HP⟩; have HS4 := HP.sep; have HE4 := HP.ext; clear HP)
  go_ret
  exact ⟨rfl, Post.mk' (Ent.sep (S := _) (T := Mach gm A n c fuel m * (FrH gf pv { f with regs := regSet (regSet f.regs ka 0) 3 0 } * S)) inferInstance inferInstance) inferInstance⟩
set_option maxRecDepth 100000 in
set_option maxHeartbeats 4000000 in
theorem impl_step7c (S : HP) (w : World) (gm : Nat) (A : Option Addr) (n c : Nat) (fuel : Int) (m : Ma) (gf : Nat) (gp : Nat) (up : Value) (f : Fr) (p : Fr) [H : SepI w (Mach gm A n c fuel m * (FrH gf (.pointer (some ⟨gp, 0, none⟩)) f * (FrH gp up p * S)))] (b : Int) (ka : Nat) (hka : ka < 4) (hd : f.df = true ∧ f.ct = false) (he : p.en ≠ 2) :
    Calls Try.prog 159 #[.pointer (some ⟨gm, 0, none⟩), .pointer (some ⟨gf, 0, none⟩), .agg #[.int .i64 7, .int .i64 (ka : Int), .int .i64 b]] w (StepK (FrH gp up p * S) gm gf A n c fuel (.pointer (some ⟨gp, 0, none⟩)) m { f with regs := regSet (regSet f.regs ka 0) 3 0 } false w) := by
  have haI : (ka : Int) < 4 := by omega
  go_enter Try.func159, Try.ntmps159
  go_wp2_with (go_at_call 161; refine (@impl_recover_c (pts w.heap.size (.cells #[.int .i64 7, .int .i64 (ka : Int), .int .i64 b] 141 (0, 0)) * S) _ gm A n c fuel m gf gp up f p (SepI.cast (S := _) inferInstance (by ac_rfl)) ka hka hd he).mono ?_; rintro e w4 ⟨rfl, HP⟩; have HS4 := HP.sep; have HE4 := HP.ext; clear HP)
  go_ret
  exact ⟨rfl, Post.mk' (Ent.sep (S := _) (T := Mach gm A n c fuel m * (FrH gf (.pointer (some ⟨gp, 0, none⟩)) { f with regs := regSet (regSet f.regs ka 0) 3 0 } * (FrH gp up p * S))) inferInstance inferInstance) inferInstance⟩
set_option maxRecDepth 100000 in
set_option maxHeartbeats 4000000 in
theorem impl_step7d (S : HP) (w : World) (gm : Nat) (A : Option Addr) (n c : Nat) (fuel : Int) (m : Ma) (gf : Nat) (gp : Nat) (up : Value) (f : Fr) (p : Fr) [H : SepI w (Mach gm A n c fuel m * (FrH gf (.pointer (some ⟨gp, 0, none⟩)) f * (FrH gp up p * S)))] (b : Int) (ka : Nat) (hka : ka < 4) (hd : f.df = true ∧ f.ct = false) (he : p.en = 2) (hpa : 0 ≤ p.pa ∧ p.pa.toNat < m.panics.length) (ht : m.trace.length ≤ 1048576) (ho : m.owners.length ≤ 1048576) (hrc : m.recs.length ≤ 1048576) :
    Calls Try.prog 159 #[.pointer (some ⟨gm, 0, none⟩), .pointer (some ⟨gf, 0, none⟩), .agg #[.int .i64 7, .int .i64 (ka : Int), .int .i64 b]] w (StepK (FrH gp up p * S) gm gf A n c fuel (.pointer (some ⟨gp, 0, none⟩)) (tellM { pnSet m p.pa (fun x => { x with fa := 1 }) with recs := m.recs ++ [⟨f.id, p.id, p.pa⟩] } 6 f.fn (pnAt m p.pa).va f.id) { f with ct := true, regs := regSet (regSet f.regs ka (pnAt m p.pa).va) 3 1 } false w) := by
  have haI : (ka : Int) < 4 := by omega
  go_enter Try.func159, Try.ntmps159
  go_wp2_with (go_at_call 161; refine (@impl_recover_d (pts w.heap.size (.cells #[.int .i64 7, .int .i64 (ka : Int), .int .i64 b] 141 (0, 0)) * S) _ gm A n c fuel m gf gp up f p (SepI.cast (S := _) inferInstance (by ac_rfl)) ka hka hd he hpa ht ho hrc).mono ?_; rintro e w4 ⟨rfl, HP⟩; have HS4 := HP.sep; have HE4 := HP.ext; clear HP)
  go_ret
  exact ⟨rfl, Post.mk' (Ent.sep (S := _) (T := Mach gm A n c fuel (tellM { pnSet m p.pa (fun x => { x with fa := 1 }) with recs := m.recs ++ [⟨f.id, p.id, p.pa⟩] } 6 f.fn (pnAt m p.pa).va f.id) * (FrH gf (.pointer (some ⟨gp, 0, none⟩)) { f with ct := true, regs := regSet (regSet f.regs ka (pnAt m p.pa).va) 3 1 } * (FrH gp up p * S))) inferInstance inferInstance) inferInstance⟩
set_option maxRecDepth 100000 in
set_option maxHeartbeats 4000000 in
theorem impl_step9a (S : HP) (w : World) (gm : Nat) (A : Option Addr) (n c : Nat) (fuel : Int) (m : Ma) (gf : Nat) (pv : Value) (f : Fr) [H : SepI w (Mach gm A n c fuel m * (FrH gf pv f * S))] (a b : Int) (ka : Nat) (hka : ka < 4) (hd : f.df = false) :
    Calls Try.prog 159 #[.pointer (some ⟨gm, 0, none⟩), .pointer (some ⟨gf, 0, none⟩), .agg #[.int .i64 9, .int .i64 (ka : Int), .int .i64 b]] w (StepK S gm gf A n c fuel pv m f false w) := by
  obtain ⟨⟨r, A0, c0⟩, hr, H1⟩ := FM.open H
  obtain ⟨id, fn, rg, rn, df, ct, lv, en, pa⟩ := f
  simp only at hr
  subst hr
  unfold FrC at H1
  simp only at H1
  clear H
  simp only at hd
  subst hd
  have haI : (ka : Int) < 4 := by omega
  go_enter Try.func159, Try.ntmps159
  go_wp2
  go_ret
  refine ⟨rfl, Post.mk' (FM.shut ⟨r, A0, c0⟩ rfl (SepI.cast (Ent.sep (S := _) (T := pts gf (.cells #[Value.int .i64 (id : Int), .int .i64 fn, .int .i64 r.a, .int .i64 r.b, .int .i64 r.c, .int .i64 r.d, .slice A0 rn.length c0, pv, .bool false, .bool ct, .bool lv, .int .i64 en, .int .i64 pa] 154 (0, 0)) * (Row 191 2 (.slice A0 rn.length c0) rn.length (cPr rn) * (Mach gm A n c fuel m * (S)))) inferInstance inferInstance) (by rfl))) inferInstance⟩
set_option maxRecDepth 100000 in
set_option maxHeartbeats 4000000 in
theorem impl_step9b (S : HP) (w : World) (gm : Nat) (A : Option Addr) (n c : Nat) (fuel : Int) (m : Ma) (gf : Nat) (gp : Nat) (up : Value) (f p : Fr) [H : SepI w (Mach gm A n c fuel m * (FrH gf (.pointer (some ⟨gp, 0, none⟩)) f * (FrH gp up p * S)))] (b : Int) (ka : Nat) (hka : ka < 4) (hd : f.df = true) :
    Calls Try.prog 159 #[.pointer (some ⟨gm, 0, none⟩), .pointer (some ⟨gf, 0, none⟩), .agg #[.int .i64 9, .int .i64 (ka : Int), .int .i64 b]] w (StepK (FrH gp up { p with regs := regSet p.regs 1 (regAt f.regs ka) } * S) gm gf A n c fuel (.pointer (some ⟨gp, 0, none⟩)) m f false w) := by
  obtain ⟨⟨r, A0, c0⟩, ⟨rp, A9, c9⟩, hr, hrp, H1⟩ := FMP.open H
  obtain ⟨id, fn, rg, rn, df, ct, lv, en, pa⟩ := f
  obtain ⟨idp, fnp, rgp, rnp, dfp, ctp, lvp, enp, pap⟩ := p
  simp only at hr hrp
  subst hr hrp
  unfold FrC at H1
  simp only at H1
  clear H
  simp only at hd
  subst hd
  have haI : (ka : Int) < 4 := by omega
  have hget : #[Value.int .i64 (id : Int), .int .i64 fn, .int .i64 r.a, .int .i64 r.b, .int .i64 r.c, .int .i64 r.d, .slice A0 rn.length c0, .pointer (some ⟨gp, 0, none⟩), .bool true, .bool ct, .bool lv, .int .i64 en, .int .i64 pa][2 + ka]? = some (.int .i64 (regAt r.l ka)) := frC_get (by omega)
  go_enter Try.func159, Try.ntmps159
  go_wp2
  refine wp_region_W 12 14 (by kernel_rfl) (by kernel_rfl) (fun w' => w'.cell? ⟨gf, 7, none⟩ = some (.pointer (some ⟨gp, 0, none⟩)) ∧ w'.cell? ⟨gf, 2 + ka, none⟩ = some (.int .i64 (regAt r.l ka))) ⟨cb, (cell_blk _ _ _ _ _ _ _).trans hget⟩ (fun hHeld => ?_)
  refine tkp 0 hHeld ?_
  refine tkp 1 hHeld ?_
  refine tkp 2 hHeld ?_
  refine tkl 3 hHeld ?_
  refine tkp 4 hHeld ?_
  refine tkp 5 hHeld ?_
  refine tkp 6 hHeld ?_
  refine tkp 7 hHeld ?_
  refine tkp 8 hHeld ?_
  refine tkl 9 hHeld ?_
  refine tkp 10 hHeld ?_
  refine tkp 11 hHeld ?_
  refine wpAnyW_done (by kernel_rfl) ?_
  go_wp2
  go_ret
  refine ⟨rfl, Post.mk' (FMP.shut ⟨r, A0, c0⟩ ⟨rp.set 1 (regAt r.l ka), A9, c9⟩ rfl (R4s.set_l rp (k := 1) (by decide) _) (SepI.cast (Ent.sep (S := _) (T := pts gf (.cells #[Value.int .i64 (id : Int), .int .i64 fn, .int .i64 r.a, .int .i64 r.b, .int .i64 r.c, .int .i64 r.d, .slice A0 rn.length c0, .pointer (some ⟨gp, 0, none⟩), .bool true, .bool ct, .bool lv, .int .i64 en, .int .i64 pa] 154 (0, 0)) * (Row 191 2 (.slice A0 rn.length c0) rn.length (cPr rn) * (pts gp (.cells (#[Value.int .i64 (idp : Int), .int .i64 fnp, .int .i64 rp.a, .int .i64 rp.b, .int .i64 rp.c, .int .i64 rp.d, .slice A9 rnp.length c9, up, .bool dfp, .bool ctp, .bool lvp, .int .i64 enp, .int .i64 pap].setIfInBounds 3 (.int .i64 (regAt r.l ka))) 154 (0, 0)) * (Row 191 2 (.slice A9 rnp.length c9) rnp.length (cPr rnp) * (Mach gm A n c fuel m * (S)))))) inferInstance inferInstance) (by rfl))) inferInstance⟩
/-- The call that runs this one, if there is one. -/
def ParH (loc : Option (Nat × Value)) (par : Option Fr) : HP := match loc, par with
  | some l, some p => FrH l.1 l.2 p
  | _, _ => emp
def pvOf (loc : Option (Nat × Value)) : Value := .pointer (loc.map fun l => ⟨l.1, 0, none⟩)
/-- What a step leaves. -/
def StepP (S : HP) (gm gf : Nat) (A : Option Addr) (n c : Nat) (fuel : Int) (loc : Option (Nat × Value)) (q : Ma × Fr × Option Fr × Bool) (w : World) (e : Ending) (w' : World) : Prop := e = .returned (.bool q.2.2.2) ∧ Post w (Mach gm A n c fuel q.1 * (FrH gf (pvOf loc) q.2.1 * (ParH loc q.2.2.1 * S))) w'
/-- Lengths within bounds. -/
structure Small (m : Ma) : Prop where
  t : m.trace.length ≤ 1048576
  o : m.owners.length ≤ 1048576
  c : m.calls.length ≤ 1048576
  p : m.panics.length ≤ 1048576
  r : m.recs.length ≤ 1048576
  u : ∀ x ∈ m.panics, x.un.length ≤ 1048576
  ma : m.made ≤ 1048575
  dp : m.depth ≤ 1048575
theorem stepM_7 (m : Ma) (f : Fr) (par : Option Fr) (ka b : Int) : stepM m f par ⟨7, ka, b⟩ = match par with
      | some p => if f.df && !f.ct && p.en == 2 then (tellM { pnSet m p.pa (fun x => { x with fa := 1 }) with recs := m.recs ++ [⟨f.id, p.id, p.pa⟩] } 6 f.fn (pnAt m p.pa).va f.id, { f with ct := true, regs := regSet (regSet f.regs ka (pnAt m p.pa).va) 3 1 }, par, false) else (m, { f with regs := regSet (regSet f.regs ka 0) 3 0 }, par, false)
      | none => (m, { f with regs := regSet (regSet f.regs ka 0) 3 0 }, par, false) := by cases par <;> rfl
theorem stepM_9 (m : Ma) (f : Fr) (par : Option Fr) (ka b : Int) : stepM m f par ⟨9, ka, b⟩ = match par with
      | some p => if f.df then (m, f, some { p with regs := regSet p.regs 1 (regAt f.regs ka) }, false) else (m, f, par, false)
      | none => (m, f, par, false) := by cases par <;> rfl
theorem impl_step (S : HP) (w : World) (gm : Nat) (A : Option Addr) (n c : Nat) (fuel : Int) (m : Ma) (gf : Nat) (loc : Option (Nat × Value)) (f : Fr) (par : Option Fr) [H : SepI w (Mach gm A n c fuel m * (FrH gf (pvOf loc) f * (ParH loc par * S)))] (s : St) {nf : Nat} (hs : StepOk nf s) (h4 : s.k ≠ 4) (h11 : s.k ≠ 11) (hpp : f.df = true → ∃ l p, loc = some l ∧ par = some p)
    (hm : Small m) (hrn : f.runs.length ≤ 1048576) (h16 : ∀ x ∈ f.regs, n16 x) (hpa : ∀ p, par = some p → p.en = 2 → 0 ≤ p.pa ∧ p.pa.toNat < m.panics.length) :
    Calls Try.prog 159 #[.pointer (some ⟨gm, 0, none⟩), .pointer (some ⟨gf, 0, none⟩), .agg #[.int .i64 s.k, .int .i64 s.a, .int .i64 s.b]] w (StepP S gm gf A n c fuel loc (stepM m f par s) w) := by
  obtain ⟨k, a, b⟩ := s
  obtain ⟨a1, a2, h1, h2, h5, _, h3⟩ := hs
  simp only at a1 a2 h1 h2 h5 h3 h4 h11 ⊢
  have R : ∀ x : Int, 0 ≤ x → x ≤ 3 → ∃ k : Nat, k < 4 ∧ x = k := fun x h0 h1 => ⟨x.toNat, by omega, by omega⟩
  have K : ∀ {m' f' bb}, ∀ {q : Ma × Fr × Option Fr × Bool}, q = (m', f', par, bb) → ∀ e w', StepK (ParH loc par * S) gm gf A n c fuel (pvOf loc) m' f' bb w e w' → StepP S gm gf A n c fuel loc q w e w' := fun h e w' hk => by subst h; exact hk
  have D : k = 1 ∨ k = 2 ∨ k = 3 ∨ k = 5 ∨ k = 6 ∨ k = 7 ∨ k = 8 ∨ k = 9 ∨ k = 10 ∨ k = 12 ∨ k = 13 := by omega
  rcases D with rfl | rfl | rfl | rfl | rfl | rfl | rfl | rfl | rfl | rfl | rfl
  · obtain ⟨ka, hka, rfl⟩ := R a (h1 rfl).1 (h1 rfl).2.1
    exact (@impl_step1 _ w gm A n c fuel m gf _ f H 0 b ka hka).mono (K rfl)
  · obtain ⟨ka, hka, rfl⟩ := R a (h2 rfl).1 (h2 rfl).2.1
    obtain ⟨kb, hkb, rfl⟩ := R b (h2 rfl).2.2.1 (h2 rfl).2.2.2
    exact (@impl_step2 _ w gm A n c fuel m gf _ f H 0 0 ka hka kb hkb h16).mono (K rfl)
  · obtain ⟨ka, hka, rfl⟩ := R a (h3 (by omega)).1 (h3 (by omega)).2
    exact (@impl_step3 _ w gm A n c fuel m gf _ f H 0 b ka hka hm.t hm.o).mono (K rfl)
  · obtain ⟨kb, hkb, rfl⟩ := R b (h5 (by omega)).2.2.1 (h5 (by omega)).2.2.2
    exact (@impl_step5 _ w gm A n c fuel m gf _ f H a 0 kb hkb hm.t hm.o hrn).mono (K rfl)
  · obtain ⟨ka, hka, rfl⟩ := R a (h3 (by omega)).1 (h3 (by omega)).2
    exact (@impl_step6 _ w gm A n c fuel m gf _ f H 0 b ka hka hm.t hm.o hm.p).mono (K rfl)
  · obtain ⟨ka, hka, rfl⟩ := R a (h3 (by omega)).1 (h3 (by omega)).2
    have e7 := stepM_7 m f par (ka : Int) b
    cases hdf : f.df
    · refine (@impl_step7a _ w gm A n c fuel m gf _ f H b ka hka hdf).mono (K ?_)
      rw [e7]
      cases par <;> simp [hdf]
    · cases hct : f.ct
      · obtain ⟨⟨gp, up⟩, p, rfl, rfl⟩ := hpp hdf
        by_cases he : p.en = 2
        · refine (@impl_step7d S w gm A n c fuel m gf gp up f p H b ka hka ⟨hdf, hct⟩ he (hpa p rfl he) hm.t hm.o hm.r).mono (fun e w' hk => ?_)
          have e : (f.df && !f.ct && p.en == 2) = true := by simp [hdf, hct, he]
          rw [e7]
          simp only [e, if_true]
          exact hk
        · refine (@impl_step7c S w gm A n c fuel m gf gp up f p H b ka hka ⟨hdf, hct⟩ he).mono (fun e w' hk => ?_)
          rw [e7]
          have e : (f.df && !f.ct && p.en == 2) = false := by simp [hdf, hct, he]
          simp only [e, Bool.false_eq_true, if_false]
          exact hk
      · refine (@impl_step7b _ w gm A n c fuel m gf _ f H b ka hka ⟨hdf, hct⟩).mono (K ?_)
        rw [e7]
        cases par <;> simp [hdf, hct]
  · obtain ⟨ka, hka, rfl⟩ := R a (h3 (by omega)).1 (h3 (by omega)).2
    exact (@impl_step8 _ w gm A n c fuel m gf _ f H 0 b ka hka).mono (K rfl)
  · obtain ⟨ka, hka, rfl⟩ := R a (h3 (by omega)).1 (h3 (by omega)).2
    have e9 := stepM_9 m f par (ka : Int) b
    cases hdf : f.df
    · refine (@impl_step9a _ w gm A n c fuel m gf _ f H 0 b ka hka hdf).mono (K ?_)
      rw [e9]
      cases par <;> simp [hdf]
    · obtain ⟨⟨gp, up⟩, p, rfl, rfl⟩ := hpp hdf
      refine (@impl_step9b S w gm A n c fuel m gf gp up f p H b ka hka hdf).mono (fun e w' hk => ?_)
      rw [e9]
      simp only [hdf, if_true]
      exact hk
  · exact (@impl_step10 _ w gm A n c fuel m gf _ f H a b).mono (K rfl)
  · obtain ⟨ka, hka, rfl⟩ := R a (h3 (by omega)).1 (h3 (by omega)).2
    exact (@impl_step12 _ w gm A n c fuel m gf _ f H 0 b ka hka).mono (K rfl)
  · obtain ⟨ka, hka, rfl⟩ := R a (h3 (by omega)).1 (h3 (by omega)).2
    exact (@impl_step13 _ w gm A n c fuel m gf _ f H 0 b ka hka).mono (K rfl)
end Go.Proofs.Ytobikkdnalnllaa
