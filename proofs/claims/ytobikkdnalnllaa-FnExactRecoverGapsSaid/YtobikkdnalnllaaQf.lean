/- The reference's machine: the step that panics. Conditions: registers and numbers within bounds. -/
import Derived.Test.YtobikkdnalnllaaQc
namespace Go.Proofs.Ytobikkdnalnllaa
open Go.RowKit SL
attribute [local go_sem] cell_blk frozen_blk lt_blk cell_at frozen_row lt_row
set_option linter.unusedVariables false
set_option linter.unusedSimpArgs false
set_option maxRecDepth 100000 in
set_option maxHeartbeats 4000000 in
theorem spec_make6 (S : HP) (w : World) (A : Option Addr) (n c0 : Nat) (vt : Value) (A2 : Option Addr) (n2 c2 : Nat) (A3 : Option Addr) (n3 c3 : Nat) (m : SM) (c : SF) (r : R4s) (hr : c.regs = r.l) [H : SepI w (Row 75 3 vt m.trace.length (cEvs m.trace) * S)] (ht : m.trace.length ≤ 1048576) (fuel at_ : Int) (hat : 0 ≤ at_ ∧ at_ ≤ 1048576) (call : CallS) (ka : Nat) (hka : ka < 4) (b : Int) :
    Calls Try.prog 117 #[mV (.slice A n c0) vt (.slice A2 n2 c2) fuel m, fV c r (.slice A3 n3 c3), .int .i64 at_, .agg #[.int .i64 6, .int .i64 ka, .int .i64 b]] w (MakeT S (.slice A n c0) (.slice A2 n2 c2) (.slice A3 n3 c3) fuel (makeS call m c at_ ⟨6, ka, b⟩) w) := by
  obtain ⟨sp, sh, mk, dp, t, sn⟩ := m
  obtain ⟨f, dep, rg, dfs, ki, va, lv, df, pg, pa, rc, ou⟩ := c
  simp only at hr
  subst hr
  simp only at H ht
  obtain ⟨A1, c1, rfl, hc1, hc1'⟩ := Row.form H
  have HC := Hd.mk hc1
  clear hc1 hc1'
  have haI : (ka : Int) < 4 := by omega
  obtain ⟨t4, HT4⟩ : ∃ q : List Ev, Hd (q = t ++ [(⟨5, f, regAt r.l ka⟩ : Ev)]) := ⟨_, ⟨rfl⟩⟩
  have HQ : Hd (makeS call (⟨sp, sh, mk, dp, t, sn⟩ : SM) (⟨f, dep, r.l, dfs, ki, va, lv, df, pg, pa, rc, ou⟩ : SF) at_ ⟨6, ka, b⟩ = ((⟨sp, sh, mk, dp, t4, sn⟩ : SM), (⟨f, dep, r.l, dfs, 2, regAt r.l ka, lv, df, pg, pa, rc, ou⟩ : SF), -1)) := ⟨by rw [HT4.out]; rfl⟩
  have hget : #[Value.int .i64 f, .int .i64 dep, .int .i64 (r.a), .int .i64 (r.b), .int .i64 (r.c), .int .i64 (r.d), .slice A3 n3 c3, .int .i64 2, .int .i64 va, .bool lv, .bool df, .bool pg, .int .i64 pa, .bool rc, .int .i64 ou][2 + ka]? = some (.int .i64 (regAt r.l ka)) := fr_get (by omega)
  go_enter Try.func117, Try.ntmps117
  go_wp2
  refine wp_region_T 9 (by kernel_rfl) (by kernel_rfl) (fun w' => w'.cell? ⟨w.heap.size, 0, none⟩ = some (.slice A n c0) ∧ w'.cell? ⟨w.heap.size, 1, none⟩ = some (.int .i64 fuel) ∧ w'.cell? ⟨w.heap.size, 2, none⟩ = some (.bool sp) ∧ w'.cell? ⟨w.heap.size, 3, none⟩ = some (.int .i64 sh) ∧ w'.cell? ⟨w.heap.size, 4, none⟩ = some (.int .i64 (mk : Int)) ∧ w'.cell? ⟨w.heap.size, 5, none⟩ = some (.int .i64 dp) ∧ w'.cell? ⟨w.heap.size, 6, none⟩ = some (.slice A1 t.length c1) ∧ w'.cell? ⟨w.heap.size, 7, none⟩ = some (.slice A2 n2 c2) ∧ w'.cell? ⟨w.heap.size + 1, 0, none⟩ = some (.int .i64 f) ∧ w'.cell? ⟨w.heap.size + 1, 1, none⟩ = some (.int .i64 dep) ∧ w'.cell? ⟨w.heap.size + 1, 2, none⟩ = some (.int .i64 (r.a)) ∧ w'.cell? ⟨w.heap.size + 1, 3, none⟩ = some (.int .i64 (r.b)) ∧ w'.cell? ⟨w.heap.size + 1, 4, none⟩ = some (.int .i64 (r.c)) ∧ w'.cell? ⟨w.heap.size + 1, 5, none⟩ = some (.int .i64 (r.d)) ∧ w'.cell? ⟨w.heap.size + 1, 6, none⟩ = some (.slice A3 n3 c3) ∧ w'.cell? ⟨w.heap.size + 1, 7, none⟩ = some (.int .i64 (2)) ∧ w'.cell? ⟨w.heap.size + 1, 8, none⟩ = some (.int .i64 (regAt r.l ka)) ∧ w'.cell? ⟨w.heap.size + 1, 9, none⟩ = some (.bool lv) ∧ w'.cell? ⟨w.heap.size + 1, 10, none⟩ = some (.bool df) ∧ w'.cell? ⟨w.heap.size + 1, 11, none⟩ = some (.bool pg) ∧ w'.cell? ⟨w.heap.size + 1, 12, none⟩ = some (.int .i64 pa) ∧ w'.cell? ⟨w.heap.size + 1, 13, none⟩ = some (.bool rc) ∧ w'.cell? ⟨w.heap.size + 1, 14, none⟩ = some (.int .i64 ou)) ⟨cb, cb, cb, cb, cb, cb, cb, cb, cb, cb, cb, cb, cb, cb, cb, cb, cb, cb, cb, cb, cb, cb, cb⟩ (fun hHeld => ?_)
  refine wpAnyT_takeL (i := 0) (v := ?_) rfl (by kernel_rfl) (by kernel_rfl) (by kernel_rfl) (by kernel_rfl) (by kernel_rfl) (fun _ _ _ h => h) (Or.inl ⟨by rfl, ?_⟩) (by assumption) ?_
  rotate_left
  · (intro w hSw; (try dsimp only at hSw); go_simp; try with_reducible rfl)
  try simp only [Act.put, List.setIfInBounds_toArray, List.set_cons_zero, List.set_cons_succ]
  refine wpAnyT_takeL (i := 1) (v := ?_) rfl (by kernel_rfl) (by kernel_rfl) (by kernel_rfl) (by kernel_rfl) (by kernel_rfl) (fun _ _ _ h => h) (Or.inl ⟨by rfl, ?_⟩) (by assumption) ?_
  rotate_left
  · (intro w hSw; (try dsimp only at hSw); go_simp; try with_reducible rfl)
  try simp only [Act.put, List.setIfInBounds_toArray, List.set_cons_zero, List.set_cons_succ]
  refine wpAnyT_takeL (i := 2) (v := ?_) rfl (by kernel_rfl) (by kernel_rfl) (by kernel_rfl) (by kernel_rfl) (by kernel_rfl) (fun _ _ _ h => h) (Or.inl ⟨by rfl, ?_⟩) (by assumption) ?_
  rotate_left
  · (intro w hSw; (try dsimp only at hSw); go_simp; try with_reducible rfl)
  try simp only [Act.put, List.setIfInBounds_toArray, List.set_cons_zero, List.set_cons_succ]
  refine wpAnyT_takeL (i := 3) (v := ?_) rfl (by kernel_rfl) (by kernel_rfl) (by kernel_rfl) (by kernel_rfl) (by kernel_rfl) (fun _ _ _ h => h) (Or.inl ⟨by rfl, ?_⟩) (by assumption) ?_
  rotate_left
  · (intro w hSw; (try dsimp only at hSw); go_simp; try with_reducible rfl)
  try simp only [Act.put, List.setIfInBounds_toArray, List.set_cons_zero, List.set_cons_succ]
  refine wpAnyT_takeL (i := 4) (v := ?_) rfl (by kernel_rfl) (by kernel_rfl) (by kernel_rfl) (by kernel_rfl) (by kernel_rfl) (fun _ _ _ h => h) (Or.inl ⟨by rfl, ?_⟩) (by assumption) ?_
  rotate_left
  · (intro w hSw; (try dsimp only at hSw); go_simp; try with_reducible rfl)
  try simp only [Act.put, List.setIfInBounds_toArray, List.set_cons_zero, List.set_cons_succ]
  refine wpAnyT_takeL (i := 6) (v := ?_) rfl (by kernel_rfl) (by kernel_rfl) (by kernel_rfl) (by kernel_rfl) (by kernel_rfl) (fun _ _ _ h => h) (Or.inl ⟨by rfl, ?_⟩) (by assumption) ?_
  rotate_left
  · (intro w hSw; (try dsimp only at hSw); go_simp; try with_reducible rfl)
  try simp only [Act.put, List.setIfInBounds_toArray, List.set_cons_zero, List.set_cons_succ]
  refine wpAnyT_one (i := 5) (by kernel_rfl) rfl (by kernel_rfl) (fun KK hKK => ?_)
  refine st_list rfl ?_
  go_wp2_with (go_at_call 116; refine (@spec_l2Tell _ _ A n c0 (.slice A1 t.length c1) A2 n2 c2 t (SepI.pickR (S := _) inferInstance inferInstance) ht fuel sh mk dp sp 5 f (regAt r.l ka)).mono ?_; rintro e w4 ⟨vt4, rfl, HP⟩; rw [← HT4.out] at HP; have HS4 := HP.sep; have HE4 := HP.ext; clear HP; obtain ⟨A4, c4, rfl, hc4, hc4'⟩ := Row.form HS4)
  refine ⟨rfl, ?_⟩
  refine hKK.out _ _ ⟨cb, cb, cb, cb, cb, cb, cb, cb, cb, cb, cb, cb, cb, cb, cb, cb, cb, cb, cb, cb, cb, cb, cb⟩ (fun hHeld => ?_)
  clear hKK KK
  try simp only [Act.put, List.setIfInBounds_toArray, List.set_cons_zero, List.set_cons_succ]
  refine wpAnyT_one (i := 7) (by kernel_rfl) rfl (by kernel_rfl) (fun KK hKK => ?_)
  refine st_list rfl (ev_store rfl 121 _ _ rfl (w.heap.size + 1 + 1 + 1) #[Value.slice A n c0, .int .i64 fuel, .bool sp, .int .i64 sh, .int .i64 (mk : Int), .int .i64 dp, .slice A4 t4.length c4, .slice A2 n2 c2] rfl rfl info_sm (by rfl) (by simp [Value.oneCell']) ?_)
  intro w8 HS8 HE8
  refine ⟨rfl, ?_⟩
  refine hKK.out _ _ ⟨cb, cb, cb, cb, cb, cb, cb, cb, cb, cb, cb, cb, cb, cb, cb, cb, cb, cb, cb, cb, cb, cb, cb⟩ (fun hHeld => ?_)
  clear hKK KK
  try simp only [Act.put, List.setIfInBounds_toArray, List.set_cons_zero, List.set_cons_succ]
  refine wpAnyT_one (i := 8) (by kernel_rfl) rfl (by kernel_rfl) (fun KK hKK => ?_)
  refine st_list rfl (ev_store rfl 123 _ _ rfl (w.heap.size + 1 + 1 + 1 + 1) #[Value.int .i64 f, .int .i64 dep, .int .i64 (r.a), .int .i64 (r.b), .int .i64 (r.c), .int .i64 (r.d), .slice A3 n3 c3, .int .i64 (2), .int .i64 (regAt r.l ka), .bool lv, .bool df, .bool pg, .int .i64 pa, .bool rc, .int .i64 ou] rfl rfl info_sf (by rfl) (by simp [Value.oneCell']) ?_)
  intro w9 HS9 HE9
  refine ⟨rfl, ?_⟩
  refine hKK.out _ _ ⟨cb, cb, cb, cb, cb, cb, cb, cb, cb, cb, cb, cb, cb, cb, cb, cb, cb, cb, cb, cb, cb, cb, cb⟩ (fun hHeld => ?_)
  clear hKK KK
  try simp only [Act.put, List.setIfInBounds_toArray, List.set_cons_zero, List.set_cons_succ]
  refine wpAnyT_done (by kernel_rfl) ?_
  go_wp2
  refine bodyPost_ret (v := .tuple #[mV (.slice A n c0) (.slice A4 t4.length c4) (.slice A2 n2 c2) fuel (⟨sp, sh, mk, dp, t4, sn⟩ : SM), fV (⟨f, dep, r.l, dfs, 2, regAt r.l ka, lv, df, pg, pa, rc, ou⟩ : SF) r (.slice A3 n3 c3), .int .i64 (-1)]) (by simp [results, Try.results117, go_sem]) rfl ?_
  exact MakeT.of (m' := (⟨sp, sh, mk, dp, t4, sn⟩ : SM)) (c' := (⟨f, dep, r.l, dfs, 2, regAt r.l ka, lv, df, pg, pa, rc, ou⟩ : SF)) (at_ := -1) (r := r) (vt := .slice A4 t4.length c4) HQ.out (rfl) (Post.mk' (Ent.sep (S := _) (T := Row 75 3 (.slice A4 t4.length c4) t4.length (cEvs t4) * S) inferInstance inferInstance) inferInstance)
end Go.Proofs.Ytobikkdnalnllaa
namespace Go.Proofs.Ytobikkdnalnllaa
open Go.RowKit SL
attribute [local go_sem] cell_blk frozen_blk lt_blk cell_at frozen_row lt_row
set_option linter.unusedVariables false
set_option linter.unusedSimpArgs false
set_option maxRecDepth 100000 in
set_option maxHeartbeats 4000000 in
theorem spec_make5 (S : HP) (w : World) (A : Option Addr) (n c0 : Nat) (vt : Value) (A2 : Option Addr) (n2 c2 : Nat) (vd : Value) (m : SM) (c : SF) (r : R4s) (hr : c.regs = r.l) [H0 : SepI w (Row 112 2 vd c.defers.length (cPr c.defers) * (Row 75 3 vt m.trace.length (cEvs m.trace) * S))] (ht : m.trace.length ≤ 1048576) (hd : c.defers.length ≤ 1048576) (fuel at_ : Int) (hat : 0 ≤ at_ ∧ at_ ≤ 1048576) (call : CallS) (a : Int) (kb : Nat) (hkb : kb < 4) :
    Calls Try.prog 117 #[mV (.slice A n c0) vt (.slice A2 n2 c2) fuel m, fV c r vd, .int .i64 at_, .agg #[.int .i64 5, .int .i64 a, .int .i64 (kb : Int)]] w (Make5 S (.slice A n c0) (.slice A2 n2 c2) fuel (makeS call m c at_ ⟨5, a, kb⟩) w) := by
  obtain ⟨sp, sh, mk, dp, t, sn⟩ := m
  obtain ⟨f, dep, rg, dfs, ki, va, lv, df, pg, pa, rc, ou⟩ := c
  simp only at hr
  subst hr
  simp only at H0 ht hd
  obtain ⟨A3, c3, rfl, hc3, hc3'⟩ := Row.form H0
  obtain ⟨A1, c1, rfl, hc1, hc1'⟩ := Row.form H0.right
  have HA3 := Hd.mk (Row.none_nil H0)
  have HC := Hd.mk hc1
  clear hc1 hc1' hc3 hc3'
  have hbI : (kb : Int) < 4 := by omega
  have hw : IntKind.i64.wrap (at_ + 1) = at_ + 1 := IntWalk.i64_in _ (by omega)
  have hget : #[Value.int .i64 f, .int .i64 dep, .int .i64 (r.a), .int .i64 (r.b), .int .i64 (r.c), .int .i64 (r.d), .slice A3 dfs.length c3, .int .i64 ki, .int .i64 va, .bool lv, .bool df, .bool pg, .int .i64 pa, .bool rc, .int .i64 ou][2 + kb]? = some (.int .i64 (regAt r.l kb)) := fr_get (by omega)
  go_enter Try.func117, Try.ntmps117
  go_wp2
  go_upto_region 5 with (fail)
  go_cut [5] (fun v5 wx => ∃ A6 c6, v5 = .pointer (some ⟨w.heap.size + 1, 0, none⟩) ∧ ExtI w wx ∧ SepI wx (pts (w.heap.size + 1) (.cells #[Value.int .i64 f, .int .i64 dep, .int .i64 (r.a), .int .i64 (r.b), .int .i64 (r.c), .int .i64 (r.d), .slice A6 (dfs.length + 1) c6, .int .i64 (ki), .int .i64 (va), .bool lv, .bool df, .bool pg, .int .i64 pa, .bool rc, .int .i64 ou] 123 (0, 0)) * (Row 112 2 (.slice A6 (dfs.length + 1) c6) (dfs.length + 1) (cPr dfs ++ [.int .i64 a, .int .i64 (regAt r.l kb)]) * (pts w.heap.size (.cells #[Value.slice A n c0, .int .i64 fuel, .bool sp, .int .i64 sh, .int .i64 (mk : Int), .int .i64 dp, .slice A1 t.length c1, .slice A2 n2 c2] 121 (0, 0)) * (pts (w.heap.size + 1 + 1) (.cells #[.int .i64 5, .int .i64 a, .int .i64 (kb : Int)] 141 (0, 0)) * (pts (w.heap.size + 1 + 1 + 1) (.cells #[.slice none 0 0, .int .i64 0, .bool false, .int .i64 0, .int .i64 0, .int .i64 0, .slice none 0 0, .slice none 0 0] 121 (0, 0)) * (pts (w.heap.size + 1 + 1 + 1 + 1) (.cells #[.int .i64 0, .int .i64 0, .int .i64 0, .int .i64 0, .int .i64 0, .int .i64 0, .slice none 0 0, .int .i64 0, .int .i64 0, .bool false, .bool false, .bool false, .int .i64 0, .bool false, .int .i64 0] 123 (0, 0)) * (Row 75 3 (.slice A1 t.length c1) t.length (cEvs t) * S))))))))
  case first =>
    refine wp_region_T 14 (by kernel_rfl) (by kernel_rfl) (fun w' => w'.cell? ⟨w.heap.size + 1, 6, none⟩ = some (.slice A3 dfs.length c3) ∧ w'.cell? ⟨w.heap.size + 1 + 1, 1, none⟩ = some (.int .i64 a) ∧ w'.cell? ⟨w.heap.size + 1 + 1, 2, none⟩ = some (.int .i64 (kb : Int)) ∧ w'.cell? ⟨w.heap.size + 1, 2 + kb, none⟩ = some (.int .i64 (regAt r.l kb))) ⟨cb, cb, cb, (cell_blk _ _ _ _ _ _ _).trans hget⟩ (fun hHeld => ?_)
    refine wpAnyT_takeL (i := 1) (v := ?_) rfl (by kernel_rfl) (by kernel_rfl) (by kernel_rfl) (by kernel_rfl) (by kernel_rfl) (fun _ _ _ h => h) (Or.inl ⟨by rfl, ?_⟩) (by assumption) ?_
    rotate_left
    · (intro w hSw; (try dsimp only at hSw); go_simp; try with_reducible rfl)
    try simp only [Act.put, List.setIfInBounds_toArray, List.set_cons_zero, List.set_cons_succ]
    refine wpAnyT_takeL (i := 2) (v := ?_) rfl (by kernel_rfl) (by kernel_rfl) (by kernel_rfl) (by kernel_rfl) (by kernel_rfl) (fun _ _ _ h => h) (Or.inl ⟨by rfl, ?_⟩) (by assumption) ?_
    rotate_left
    · (intro w hSw; (try dsimp only at hSw); go_simp; try with_reducible rfl)
    try simp only [Act.put, List.setIfInBounds_toArray, List.set_cons_zero, List.set_cons_succ]
    refine wpAnyT_takeL (i := 4) (v := ?_) rfl (by kernel_rfl) (by kernel_rfl) (by kernel_rfl) (by kernel_rfl) (by kernel_rfl) (fun _ _ _ h => h) (Or.inl ⟨by rfl, ?_⟩) (by assumption) ?_
    rotate_left
    · (intro w hSw; (try dsimp only at hSw); go_simp; try with_reducible rfl)
    try simp only [Act.put, List.setIfInBounds_toArray, List.set_cons_zero, List.set_cons_succ]
    refine wpAnyT_takeL (i := 5) (v := ?_) rfl (by kernel_rfl) (by kernel_rfl) (by kernel_rfl) (by kernel_rfl) (by kernel_rfl) (fun _ _ _ h => h) (Or.inl ⟨by rfl, ?_⟩) (by assumption) ?_
    rotate_left
    · (intro w hSw; (try dsimp only at hSw); go_simp; try with_reducible rfl)
    try simp only [Act.put, List.setIfInBounds_toArray, List.set_cons_zero, List.set_cons_succ]
    refine wpAnyT_takeL (i := 6) (v := ?_) rfl (by kernel_rfl) (by kernel_rfl) (by kernel_rfl) (by kernel_rfl) (by kernel_rfl) (fun _ _ _ h => h) (Or.inl ⟨by rfl, ?_⟩) (by assumption) ?_
    rotate_left
    · (intro w hSw; (try dsimp only at hSw); go_simp; try with_reducible rfl)
    try simp only [Act.put, List.setIfInBounds_toArray, List.set_cons_zero, List.set_cons_succ]
    refine wpAnyT_takeL (i := 7) (v := ?_) rfl (by kernel_rfl) (by kernel_rfl) (by kernel_rfl) (by kernel_rfl) (by kernel_rfl) (fun _ _ _ h => h) (Or.inl ⟨by rfl, ?_⟩) (by assumption) ?_
    rotate_left
    · (intro w hSw; (try dsimp only at hSw); go_simp; try with_reducible rfl)
    try simp only [Act.put, List.setIfInBounds_toArray, List.set_cons_zero, List.set_cons_succ]
    refine wpAnyT_takeL (i := 8) (v := ?_) rfl (by kernel_rfl) (by kernel_rfl) (by kernel_rfl) (by kernel_rfl) (by kernel_rfl) (fun _ _ _ h => h) (Or.inl ⟨by rfl, ?_⟩) (by assumption) ?_
    rotate_left
    · (intro w hSw; (try dsimp only at hSw); go_simp; try with_reducible rfl)
    try simp only [Act.put, List.setIfInBounds_toArray, List.set_cons_zero, List.set_cons_succ]
    refine wpAnyT_takeL (i := 9) (v := ?_) rfl (by kernel_rfl) (by kernel_rfl) (by kernel_rfl) (by kernel_rfl) (by kernel_rfl) (fun _ _ _ h => h) (Or.inl ⟨by rfl, ?_⟩) (by assumption) ?_
    rotate_left
    · (intro w hSw; (try dsimp only at hSw); go_simp; try with_reducible rfl)
    try simp only [Act.put, List.setIfInBounds_toArray, List.set_cons_zero, List.set_cons_succ]
    refine wpAnyT_takeL (i := 10) (v := ?_) rfl (by kernel_rfl) (by kernel_rfl) (by kernel_rfl) (by kernel_rfl) (by kernel_rfl) (fun _ _ _ h => h) (Or.inl ⟨by rfl, ?_⟩) (by assumption) ?_
    rotate_left
    · (intro w hSw; (try dsimp only at hSw); go_simp; try with_reducible rfl)
    try simp only [Act.put, List.setIfInBounds_toArray, List.set_cons_zero, List.set_cons_succ]
    refine wpAnyT_takeL (i := 11) (v := ?_) rfl (by kernel_rfl) (by kernel_rfl) (by kernel_rfl) (by kernel_rfl) (by kernel_rfl) (fun _ _ _ h => h) (Or.inl ⟨by rfl, ?_⟩) (by assumption) ?_
    rotate_left
    · (intro w hSw; (try dsimp only at hSw); go_simp; try with_reducible rfl)
    try simp only [Act.put, List.setIfInBounds_toArray, List.set_cons_zero, List.set_cons_succ]
    refine wpAnyT_two (i := 0) (j := 12) (by kernel_rfl) rfl rfl (by kernel_rfl) (by kernel_rfl) (fun KK hKK => ?_) (fun KK hKK => ?_)
    · refine st_list rfl ?_
      go_wp2
      refine ⟨rfl, ?_⟩
      refine hKK.out _ _ ⟨cb, cb, cb, (cell_blk _ _ _ _ _ _ _).trans hget⟩ (fun hHeld => ?_)
      clear hKK KK
      try simp only [Act.put, List.setIfInBounds_toArray, List.set_cons_zero, List.set_cons_succ]
      refine wpAnyT_two (i := 3) (j := 12) (by kernel_rfl) rfl rfl (by kernel_rfl) (by kernel_rfl) (fun KK hKK => ?_) (fun KK hKK => ?_)
      · refine st_list rfl (ev_appendR (H := Row.lit0 (size := 2) (SepI.pick (A := pts (w.heap.size + 1 + 1 + 1 + 1 + 1) (.cells #[] 112 (0, 0))) inferInstance inferInstance)) (v := .slice (some ⟨w.heap.size + 1 + 1 + 1 + 1 + 1, 0, none⟩) 0 0) rfl _ _ 51 rfl rfl 16 _ Try.underlying51 info_pr rfl (by decide) (by decide) A3 dfs.length c3 rfl (news := cPr dfs) HA3.out (cPr_len dfs) (cPr_one dfs) (by omega) ?_)
        rw [Nat.zero_add, List.nil_append]
        intro v5 w5 HS5 HE5
        obtain ⟨A5, c5, rfl, hc5, hc5'⟩ := Row.form HS5
        refine ⟨rfl, ?_⟩
        refine hKK.out _ _ ⟨cb, cb, cb, (cell_blk _ _ _ _ _ _ _).trans hget⟩ (fun hHeld => ?_)
        clear hKK KK
        try simp only [Act.put, List.setIfInBounds_toArray, List.set_cons_zero, List.set_cons_succ]
        refine wpAnyT_one (i := 12) (by kernel_rfl) rfl (by kernel_rfl) (fun KK hKK => ?_)
        refine st_list rfl ?_
        go_wp2
        refine ⟨rfl, ?_⟩
        refine hKK.out _ _ ⟨cb, cb, cb, (cell_blk _ _ _ _ _ _ _).trans hget⟩ (fun hHeld => ?_)
        clear hKK KK
        try simp only [Act.put, List.setIfInBounds_toArray, List.set_cons_zero, List.set_cons_succ]
        refine wpAnyT_one (i := 13) (by kernel_rfl) rfl (by kernel_rfl) (fun KK hKK => ?_)
        refine st_list rfl (ev_append (v := .slice A5 dfs.length c5) rfl _ _ 51 rfl rfl 16 _ Try.underlying51 info_pr rfl (by decide) (by decide) (w5.heap.size) 1 1 rfl rfl (by simp [Value.oneCell']) (by omega) ?_)
        intro v6 w6 HS6 HE6
        obtain ⟨A6, c6, rfl, hc6, hc6'⟩ := Row.form HS6
        refine ⟨rfl, ?_⟩
        refine hKK.out _ _ ⟨cb, cb, cb, (cell_blk _ _ _ _ _ _ _).trans hget⟩ (fun hHeld => ?_)
        clear hKK KK
        try simp only [Act.put, List.setIfInBounds_toArray, List.set_cons_zero, List.set_cons_succ]
        refine wpAnyT_done (by kernel_rfl) ?_
        go_wp2
        go_meet
        exact ⟨A6, c6, rfl, inferInstance, Ent.sep (S := _) (T := pts (w.heap.size + 1) (.cells (#[Value.int .i64 f, .int .i64 dep, .int .i64 (r.a), .int .i64 (r.b), .int .i64 (r.c), .int .i64 (r.d), .slice A3 dfs.length c3, .int .i64 (ki), .int .i64 (va), .bool lv, .bool df, .bool pg, .int .i64 pa, .bool rc, .int .i64 ou].setIfInBounds 6 (.slice A6 (dfs.length + 1) c6)) 123 (0, 0)) * (Row 112 2 (.slice A6 (dfs.length + 1) c6) (dfs.length + 1) (cPr dfs ++ [.int .i64 a, .int .i64 (regAt r.l kb)]) * (pts w.heap.size (.cells #[Value.slice A n c0, .int .i64 fuel, .bool sp, .int .i64 sh, .int .i64 (mk : Int), .int .i64 dp, .slice A1 t.length c1, .slice A2 n2 c2] 121 (0, 0)) * (pts (w.heap.size + 1 + 1) (.cells #[.int .i64 5, .int .i64 a, .int .i64 (kb : Int)] 141 (0, 0)) * (pts (w.heap.size + 1 + 1 + 1) (.cells #[.slice none 0 0, .int .i64 0, .bool false, .int .i64 0, .int .i64 0, .int .i64 0, .slice none 0 0, .slice none 0 0] 121 (0, 0)) * (pts (w.heap.size + 1 + 1 + 1 + 1) (.cells #[.int .i64 0, .int .i64 0, .int .i64 0, .int .i64 0, .int .i64 0, .int .i64 0, .slice none 0 0, .int .i64 0, .int .i64 0, .bool false, .bool false, .bool false, .int .i64 0, .bool false, .int .i64 0] 123 (0, 0)) * (Row 75 3 (.slice A1 t.length c1) t.length (cEvs t) * S))))))) inferInstance inferInstance⟩
      · refine st_list rfl ?_
        go_wp2
        refine ⟨rfl, ?_⟩
        refine hKK.out _ _ ⟨cb, cb, cb, (cell_blk _ _ _ _ _ _ _).trans hget⟩ (fun hHeld => ?_)
        clear hKK KK
        try simp only [Act.put, List.setIfInBounds_toArray, List.set_cons_zero, List.set_cons_succ]
        refine wpAnyT_one (i := 3) (by kernel_rfl) rfl (by kernel_rfl) (fun KK hKK => ?_)
        refine st_list rfl (ev_appendR (H := Row.lit0 (size := 2) (SepI.pick (A := pts (w.heap.size + 1 + 1 + 1 + 1 + 1) (.cells #[] 112 (0, 0))) inferInstance inferInstance)) (v := .slice (some ⟨w.heap.size + 1 + 1 + 1 + 1 + 1, 0, none⟩) 0 0) rfl _ _ 51 rfl rfl 16 _ Try.underlying51 info_pr rfl (by decide) (by decide) A3 dfs.length c3 rfl (news := cPr dfs) HA3.out (cPr_len dfs) (cPr_one dfs) (by omega) ?_)
        rw [Nat.zero_add, List.nil_append]
        intro v5 w5 HS5 HE5
        obtain ⟨A5, c5, rfl, hc5, hc5'⟩ := Row.form HS5
        refine ⟨rfl, ?_⟩
        refine hKK.out _ _ ⟨cb, cb, cb, (cell_blk _ _ _ _ _ _ _).trans hget⟩ (fun hHeld => ?_)
        clear hKK KK
        try simp only [Act.put, List.setIfInBounds_toArray, List.set_cons_zero, List.set_cons_succ]
        refine wpAnyT_one (i := 13) (by kernel_rfl) rfl (by kernel_rfl) (fun KK hKK => ?_)
        refine st_list rfl (ev_append (v := .slice A5 dfs.length c5) rfl _ _ 51 rfl rfl 16 _ Try.underlying51 info_pr rfl (by decide) (by decide) (w.heap.size + 1 + 1 + 1 + 1 + 1 + 1) 1 1 rfl rfl (by simp [Value.oneCell']) (by omega) ?_)
        intro v6 w6 HS6 HE6
        obtain ⟨A6, c6, rfl, hc6, hc6'⟩ := Row.form HS6
        refine ⟨rfl, ?_⟩
        refine hKK.out _ _ ⟨cb, cb, cb, (cell_blk _ _ _ _ _ _ _).trans hget⟩ (fun hHeld => ?_)
        clear hKK KK
        try simp only [Act.put, List.setIfInBounds_toArray, List.set_cons_zero, List.set_cons_succ]
        refine wpAnyT_done (by kernel_rfl) ?_
        go_wp2
        go_meet
        exact ⟨A6, c6, rfl, inferInstance, Ent.sep (S := _) (T := pts (w.heap.size + 1) (.cells (#[Value.int .i64 f, .int .i64 dep, .int .i64 (r.a), .int .i64 (r.b), .int .i64 (r.c), .int .i64 (r.d), .slice A3 dfs.length c3, .int .i64 (ki), .int .i64 (va), .bool lv, .bool df, .bool pg, .int .i64 pa, .bool rc, .int .i64 ou].setIfInBounds 6 (.slice A6 (dfs.length + 1) c6)) 123 (0, 0)) * (Row 112 2 (.slice A6 (dfs.length + 1) c6) (dfs.length + 1) (cPr dfs ++ [.int .i64 a, .int .i64 (regAt r.l kb)]) * (pts w.heap.size (.cells #[Value.slice A n c0, .int .i64 fuel, .bool sp, .int .i64 sh, .int .i64 (mk : Int), .int .i64 dp, .slice A1 t.length c1, .slice A2 n2 c2] 121 (0, 0)) * (pts (w.heap.size + 1 + 1) (.cells #[.int .i64 5, .int .i64 a, .int .i64 (kb : Int)] 141 (0, 0)) * (pts (w.heap.size + 1 + 1 + 1) (.cells #[.slice none 0 0, .int .i64 0, .bool false, .int .i64 0, .int .i64 0, .int .i64 0, .slice none 0 0, .slice none 0 0] 121 (0, 0)) * (pts (w.heap.size + 1 + 1 + 1 + 1) (.cells #[.int .i64 0, .int .i64 0, .int .i64 0, .int .i64 0, .int .i64 0, .int .i64 0, .slice none 0 0, .int .i64 0, .int .i64 0, .bool false, .bool false, .bool false, .int .i64 0, .bool false, .int .i64 0] 123 (0, 0)) * (Row 75 3 (.slice A1 t.length c1) t.length (cEvs t) * S))))))) inferInstance inferInstance⟩
    · refine st_list rfl ?_
      go_wp2
      refine ⟨rfl, ?_⟩
      refine hKK.out _ _ ⟨cb, cb, cb, (cell_blk _ _ _ _ _ _ _).trans hget⟩ (fun hHeld => ?_)
      clear hKK KK
      try simp only [Act.put, List.setIfInBounds_toArray, List.set_cons_zero, List.set_cons_succ]
      refine wpAnyT_one (i := 0) (by kernel_rfl) rfl (by kernel_rfl) (fun KK hKK => ?_)
      refine st_list rfl ?_
      go_wp2
      refine ⟨rfl, ?_⟩
      refine hKK.out _ _ ⟨cb, cb, cb, (cell_blk _ _ _ _ _ _ _).trans hget⟩ (fun hHeld => ?_)
      clear hKK KK
      try simp only [Act.put, List.setIfInBounds_toArray, List.set_cons_zero, List.set_cons_succ]
      refine wpAnyT_one (i := 3) (by kernel_rfl) rfl (by kernel_rfl) (fun KK hKK => ?_)
      refine st_list rfl (ev_appendR (H := Row.lit0 (size := 2) (SepI.pick (A := pts (w.heap.size + 1 + 1 + 1 + 1 + 1 + 1) (.cells #[] 112 (0, 0))) inferInstance inferInstance)) (v := .slice (some ⟨w.heap.size + 1 + 1 + 1 + 1 + 1 + 1, 0, none⟩) 0 0) rfl _ _ 51 rfl rfl 16 _ Try.underlying51 info_pr rfl (by decide) (by decide) A3 dfs.length c3 rfl (news := cPr dfs) HA3.out (cPr_len dfs) (cPr_one dfs) (by omega) ?_)
      rw [Nat.zero_add, List.nil_append]
      intro v5 w5 HS5 HE5
      obtain ⟨A5, c5, rfl, hc5, hc5'⟩ := Row.form HS5
      refine ⟨rfl, ?_⟩
      refine hKK.out _ _ ⟨cb, cb, cb, (cell_blk _ _ _ _ _ _ _).trans hget⟩ (fun hHeld => ?_)
      clear hKK KK
      try simp only [Act.put, List.setIfInBounds_toArray, List.set_cons_zero, List.set_cons_succ]
      refine wpAnyT_one (i := 13) (by kernel_rfl) rfl (by kernel_rfl) (fun KK hKK => ?_)
      refine st_list rfl (ev_append (v := .slice A5 dfs.length c5) rfl _ _ 51 rfl rfl 16 _ Try.underlying51 info_pr rfl (by decide) (by decide) (w.heap.size + 1 + 1 + 1 + 1 + 1) 1 1 rfl rfl (by simp [Value.oneCell']) (by omega) ?_)
      intro v6 w6 HS6 HE6
      obtain ⟨A6, c6, rfl, hc6, hc6'⟩ := Row.form HS6
      refine ⟨rfl, ?_⟩
      refine hKK.out _ _ ⟨cb, cb, cb, (cell_blk _ _ _ _ _ _ _).trans hget⟩ (fun hHeld => ?_)
      clear hKK KK
      try simp only [Act.put, List.setIfInBounds_toArray, List.set_cons_zero, List.set_cons_succ]
      refine wpAnyT_done (by kernel_rfl) ?_
      go_wp2
      go_meet
      exact ⟨A6, c6, rfl, inferInstance, Ent.sep (S := _) (T := pts (w.heap.size + 1) (.cells (#[Value.int .i64 f, .int .i64 dep, .int .i64 (r.a), .int .i64 (r.b), .int .i64 (r.c), .int .i64 (r.d), .slice A3 dfs.length c3, .int .i64 (ki), .int .i64 (va), .bool lv, .bool df, .bool pg, .int .i64 pa, .bool rc, .int .i64 ou].setIfInBounds 6 (.slice A6 (dfs.length + 1) c6)) 123 (0, 0)) * (Row 112 2 (.slice A6 (dfs.length + 1) c6) (dfs.length + 1) (cPr dfs ++ [.int .i64 a, .int .i64 (regAt r.l kb)]) * (pts w.heap.size (.cells #[Value.slice A n c0, .int .i64 fuel, .bool sp, .int .i64 sh, .int .i64 (mk : Int), .int .i64 dp, .slice A1 t.length c1, .slice A2 n2 c2] 121 (0, 0)) * (pts (w.heap.size + 1 + 1) (.cells #[.int .i64 5, .int .i64 a, .int .i64 (kb : Int)] 141 (0, 0)) * (pts (w.heap.size + 1 + 1 + 1) (.cells #[.slice none 0 0, .int .i64 0, .bool false, .int .i64 0, .int .i64 0, .int .i64 0, .slice none 0 0, .slice none 0 0] 121 (0, 0)) * (pts (w.heap.size + 1 + 1 + 1 + 1) (.cells #[.int .i64 0, .int .i64 0, .int .i64 0, .int .i64 0, .int .i64 0, .int .i64 0, .slice none 0 0, .int .i64 0, .int .i64 0, .bool false, .bool false, .bool false, .int .i64 0, .bool false, .int .i64 0] 123 (0, 0)) * (Row 75 3 (.slice A1 t.length c1) t.length (cEvs t) * S))))))) inferInstance inferInstance⟩
  case rest =>
    obtain ⟨A6, c6, rfl, HX7, HS7⟩ := hcut
    obtain ⟨t4, HT4⟩ : ∃ q : List Ev, Hd (q = t ++ [(⟨2, a, regAt r.l kb⟩ : Ev)]) := ⟨_, ⟨rfl⟩⟩
    have HQ : Hd (makeS call (⟨sp, sh, mk, dp, t, sn⟩ : SM) (⟨f, dep, r.l, dfs, ki, va, lv, df, pg, pa, rc, ou⟩ : SF) at_ ⟨5, a, kb⟩ = ((⟨sp, sh, mk, dp, t4, sn⟩ : SM), (⟨f, dep, r.l, dfs ++ [(a, regAt r.l kb)], ki, va, lv, df, pg, pa, rc, ou⟩ : SF), at_ + 1)) := ⟨by rw [HT4.out]; rfl⟩
    have hget2 : #[Value.int .i64 f, .int .i64 dep, .int .i64 (r.a), .int .i64 (r.b), .int .i64 (r.c), .int .i64 (r.d), .slice A6 (dfs.length + 1) c6, .int .i64 ki, .int .i64 va, .bool lv, .bool df, .bool pg, .int .i64 pa, .bool rc, .int .i64 ou][2 + kb]? = some (.int .i64 (regAt r.l kb)) := fr_get (by omega)
    clear hget
    go_wp2
    refine wp_region_T 14 (by kernel_rfl) (by kernel_rfl) (fun w' => w'.cell? ⟨w.heap.size, 0, none⟩ = some (.slice A n c0) ∧ w'.cell? ⟨w.heap.size, 1, none⟩ = some (.int .i64 fuel) ∧ w'.cell? ⟨w.heap.size, 2, none⟩ = some (.bool sp) ∧ w'.cell? ⟨w.heap.size, 3, none⟩ = some (.int .i64 sh) ∧ w'.cell? ⟨w.heap.size, 4, none⟩ = some (.int .i64 (mk : Int)) ∧ w'.cell? ⟨w.heap.size, 5, none⟩ = some (.int .i64 dp) ∧ w'.cell? ⟨w.heap.size, 6, none⟩ = some (.slice A1 t.length c1) ∧ w'.cell? ⟨w.heap.size, 7, none⟩ = some (.slice A2 n2 c2) ∧ w'.cell? ⟨w.heap.size + 1, 0, none⟩ = some (.int .i64 f) ∧ w'.cell? ⟨w.heap.size + 1, 1, none⟩ = some (.int .i64 dep) ∧ w'.cell? ⟨w.heap.size + 1, 2, none⟩ = some (.int .i64 (r.a)) ∧ w'.cell? ⟨w.heap.size + 1, 3, none⟩ = some (.int .i64 (r.b)) ∧ w'.cell? ⟨w.heap.size + 1, 4, none⟩ = some (.int .i64 (r.c)) ∧ w'.cell? ⟨w.heap.size + 1, 5, none⟩ = some (.int .i64 (r.d)) ∧ w'.cell? ⟨w.heap.size + 1, 6, none⟩ = some (.slice A6 (dfs.length + 1) c6) ∧ w'.cell? ⟨w.heap.size + 1, 7, none⟩ = some (.int .i64 (ki)) ∧ w'.cell? ⟨w.heap.size + 1, 8, none⟩ = some (.int .i64 (va)) ∧ w'.cell? ⟨w.heap.size + 1, 9, none⟩ = some (.bool lv) ∧ w'.cell? ⟨w.heap.size + 1, 10, none⟩ = some (.bool df) ∧ w'.cell? ⟨w.heap.size + 1, 11, none⟩ = some (.bool pg) ∧ w'.cell? ⟨w.heap.size + 1, 12, none⟩ = some (.int .i64 pa) ∧ w'.cell? ⟨w.heap.size + 1, 13, none⟩ = some (.bool rc) ∧ w'.cell? ⟨w.heap.size + 1, 14, none⟩ = some (.int .i64 ou) ∧ w'.cell? ⟨w.heap.size + 1 + 1, 1, none⟩ = some (.int .i64 a) ∧ w'.cell? ⟨w.heap.size + 1 + 1, 2, none⟩ = some (.int .i64 (kb : Int)) ∧ w'.cell? ⟨w.heap.size + 1, 2 + kb, none⟩ = some (.int .i64 (regAt r.l kb))) ⟨cb, cb, cb, cb, cb, cb, cb, cb, cb, cb, cb, cb, cb, cb, cb, cb, cb, cb, cb, cb, cb, cb, cb, cb, cb, (cell_blk _ _ _ _ _ _ _).trans hget2⟩ (fun hHeld => ?_)
    refine wpAnyT_takeL (i := 0) (v := ?_) rfl (by kernel_rfl) (by kernel_rfl) (by kernel_rfl) (by kernel_rfl) (by kernel_rfl) (fun _ _ _ h => h) (Or.inl ⟨by rfl, ?_⟩) (by assumption) ?_
    rotate_left
    · (intro w hSw; (try dsimp only at hSw); go_simp; try with_reducible rfl)
    try simp only [Act.put, List.setIfInBounds_toArray, List.set_cons_zero, List.set_cons_succ]
    refine wpAnyT_takeL (i := 1) (v := ?_) rfl (by kernel_rfl) (by kernel_rfl) (by kernel_rfl) (by kernel_rfl) (by kernel_rfl) (fun _ _ _ h => h) (Or.inl ⟨by rfl, ?_⟩) (by assumption) ?_
    rotate_left
    · (intro w hSw; (try dsimp only at hSw); go_simp; try with_reducible rfl)
    try simp only [Act.put, List.setIfInBounds_toArray, List.set_cons_zero, List.set_cons_succ]
    refine wpAnyT_takeL (i := 2) (v := ?_) rfl (by kernel_rfl) (by kernel_rfl) (by kernel_rfl) (by kernel_rfl) (by kernel_rfl) (fun _ _ _ h => h) (Or.inl ⟨by rfl, ?_⟩) (by assumption) ?_
    rotate_left
    · (intro w hSw; (try dsimp only at hSw); go_simp; try with_reducible rfl)
    try simp only [Act.put, List.setIfInBounds_toArray, List.set_cons_zero, List.set_cons_succ]
    refine wpAnyT_takeL (i := 3) (v := ?_) rfl (by kernel_rfl) (by kernel_rfl) (by kernel_rfl) (by kernel_rfl) (by kernel_rfl) (fun _ _ _ h => h) (Or.inl ⟨by rfl, ?_⟩) (by assumption) ?_
    rotate_left
    · (intro w hSw; (try dsimp only at hSw); go_simp; try with_reducible rfl)
    try simp only [Act.put, List.setIfInBounds_toArray, List.set_cons_zero, List.set_cons_succ]
    refine wpAnyT_takeL (i := 4) (v := ?_) rfl (by kernel_rfl) (by kernel_rfl) (by kernel_rfl) (by kernel_rfl) (by kernel_rfl) (fun _ _ _ h => h) (Or.inl ⟨by rfl, ?_⟩) (by assumption) ?_
    rotate_left
    · (intro w hSw; (try dsimp only at hSw); go_simp; try with_reducible rfl)
    try simp only [Act.put, List.setIfInBounds_toArray, List.set_cons_zero, List.set_cons_succ]
    refine wpAnyT_takeL (i := 5) (v := ?_) rfl (by kernel_rfl) (by kernel_rfl) (by kernel_rfl) (by kernel_rfl) (by kernel_rfl) (fun _ _ _ h => h) (Or.inl ⟨by rfl, ?_⟩) (by assumption) ?_
    rotate_left
    · (intro w hSw; (try dsimp only at hSw); go_simp; try with_reducible rfl)
    try simp only [Act.put, List.setIfInBounds_toArray, List.set_cons_zero, List.set_cons_succ]
    refine wpAnyT_takeL (i := 6) (v := ?_) rfl (by kernel_rfl) (by kernel_rfl) (by kernel_rfl) (by kernel_rfl) (by kernel_rfl) (fun _ _ _ h => h) (Or.inl ⟨by rfl, ?_⟩) (by assumption) ?_
    rotate_left
    · (intro w hSw; (try dsimp only at hSw); go_simp; try with_reducible rfl)
    try simp only [Act.put, List.setIfInBounds_toArray, List.set_cons_zero, List.set_cons_succ]
    refine wpAnyT_takeL (i := 7) (v := ?_) rfl (by kernel_rfl) (by kernel_rfl) (by kernel_rfl) (by kernel_rfl) (by kernel_rfl) (fun _ _ _ h => h) (Or.inl ⟨by rfl, ?_⟩) (by assumption) ?_
    rotate_left
    · (intro w hSw; (try dsimp only at hSw); go_simp; try with_reducible rfl)
    try simp only [Act.put, List.setIfInBounds_toArray, List.set_cons_zero, List.set_cons_succ]
    refine wpAnyT_takeL (i := 9) (v := ?_) rfl (by kernel_rfl) (by kernel_rfl) (by kernel_rfl) (by kernel_rfl) (by kernel_rfl) (fun _ _ _ h => h) (Or.inl ⟨by rfl, ?_⟩) (by assumption) ?_
    rotate_left
    · (intro w hSw; (try dsimp only at hSw); go_simp; try with_reducible rfl)
    try simp only [Act.put, List.setIfInBounds_toArray, List.set_cons_zero, List.set_cons_succ]
    refine wpAnyT_takeL (i := 10) (v := ?_) rfl (by kernel_rfl) (by kernel_rfl) (by kernel_rfl) (by kernel_rfl) (by kernel_rfl) (fun _ _ _ h => h) (Or.inl ⟨by rfl, ?_⟩) (by assumption) ?_
    rotate_left
    · (intro w hSw; (try dsimp only at hSw); go_simp; try with_reducible rfl)
    try simp only [Act.put, List.setIfInBounds_toArray, List.set_cons_zero, List.set_cons_succ]
    refine wpAnyT_takeL (i := 11) (v := ?_) rfl (by kernel_rfl) (by kernel_rfl) (by kernel_rfl) (by kernel_rfl) (by kernel_rfl) (fun _ _ _ h => h) (Or.inl ⟨by rfl, ?_⟩) (by assumption) ?_
    rotate_left
    · (intro w hSw; (try dsimp only at hSw); go_simp; try with_reducible rfl)
    try simp only [Act.put, List.setIfInBounds_toArray, List.set_cons_zero, List.set_cons_succ]
    refine wpAnyT_one (i := 8) (by kernel_rfl) rfl (by kernel_rfl) (fun KK hKK => ?_)
    refine st_list rfl ?_
    go_wp2_with (go_at_call 116; refine (@spec_l2Tell _ _ A n c0 (.slice A1 t.length c1) A2 n2 c2 t (SepI.pickR (S := _) inferInstance inferInstance) ht fuel sh mk dp sp 2 a (regAt r.l kb)).mono ?_; rintro e w4 ⟨vt4, rfl, HP⟩; rw [← HT4.out] at HP; have HS4 := HP.sep; have HE4 := HP.ext; clear HP; obtain ⟨A4, c4, rfl, hc4, hc4'⟩ := Row.form HS4)
    refine ⟨rfl, ?_⟩
    refine hKK.out _ _ ⟨cb, cb, cb, cb, cb, cb, cb, cb, cb, cb, cb, cb, cb, cb, cb, cb, cb, cb, cb, cb, cb, cb, cb, cb, cb, (cell_blk _ _ _ _ _ _ _).trans hget2⟩ (fun hHeld => ?_)
    clear hKK KK
    try simp only [Act.put, List.setIfInBounds_toArray, List.set_cons_zero, List.set_cons_succ]
    refine wpAnyT_one (i := 12) (by kernel_rfl) rfl (by kernel_rfl) (fun KK hKK => ?_)
    refine st_list rfl (ev_store rfl 121 _ _ rfl (w.heap.size + 1 + 1 + 1) #[Value.slice A n c0, .int .i64 fuel, .bool sp, .int .i64 sh, .int .i64 (mk : Int), .int .i64 dp, .slice A4 t4.length c4, .slice A2 n2 c2] rfl rfl info_sm (by rfl) (by simp [Value.oneCell']) ?_)
    intro w8 HS8 HE8
    refine ⟨rfl, ?_⟩
    refine hKK.out _ _ ⟨cb, cb, cb, cb, cb, cb, cb, cb, cb, cb, cb, cb, cb, cb, cb, cb, cb, cb, cb, cb, cb, cb, cb, cb, cb, (cell_blk _ _ _ _ _ _ _).trans hget2⟩ (fun hHeld => ?_)
    clear hKK KK
    try simp only [Act.put, List.setIfInBounds_toArray, List.set_cons_zero, List.set_cons_succ]
    refine wpAnyT_one (i := 13) (by kernel_rfl) rfl (by kernel_rfl) (fun KK hKK => ?_)
    refine st_list rfl (ev_store rfl 123 _ _ rfl (w.heap.size + 1 + 1 + 1 + 1) #[Value.int .i64 f, .int .i64 dep, .int .i64 (r.a), .int .i64 (r.b), .int .i64 (r.c), .int .i64 (r.d), .slice A6 (dfs.length + 1) c6, .int .i64 (ki), .int .i64 (va), .bool lv, .bool df, .bool pg, .int .i64 pa, .bool rc, .int .i64 ou] rfl rfl info_sf (by rfl) (by simp [Value.oneCell']) ?_)
    intro w9 HS9 HE9
    refine ⟨rfl, ?_⟩
    refine hKK.out _ _ ⟨cb, cb, cb, cb, cb, cb, cb, cb, cb, cb, cb, cb, cb, cb, cb, cb, cb, cb, cb, cb, cb, cb, cb, cb, cb, (cell_blk _ _ _ _ _ _ _).trans hget2⟩ (fun hHeld => ?_)
    clear hKK KK
    try simp only [Act.put, List.setIfInBounds_toArray, List.set_cons_zero, List.set_cons_succ]
    refine wpAnyT_done (by kernel_rfl) ?_
    go_wp2
    refine bodyPost_ret (v := .tuple #[mV (.slice A n c0) (.slice A4 t4.length c4) (.slice A2 n2 c2) fuel (⟨sp, sh, mk, dp, t4, sn⟩ : SM), fV (⟨f, dep, r.l, dfs ++ [(a, regAt r.l kb)], ki, va, lv, df, pg, pa, rc, ou⟩ : SF) r (.slice A6 (dfs.length + 1) c6), .int .i64 (at_ + 1)]) (by simp [results, Try.results117, go_sem]) rfl ?_
    unfold Make5
    rw [HQ.out]
    refine ⟨.slice A4 t4.length c4, .slice A6 (dfs.length + 1) c6, r, rfl, rfl, Post.mk' (SepI.cast (Ent.sep (S := _) (T := Row 112 2 (.slice A6 (dfs.length + 1) c6) (dfs.length + 1) (cPr dfs ++ [.int .i64 a, .int .i64 (regAt r.l kb)]) * (Row 75 3 (.slice A4 t4.length c4) t4.length (cEvs t4) * S)) inferInstance inferInstance) ?_) inferInstance⟩
    simp only
    rw [cPr_snoc, List.length_append]
    rfl
end Go.Proofs.Ytobikkdnalnllaa
