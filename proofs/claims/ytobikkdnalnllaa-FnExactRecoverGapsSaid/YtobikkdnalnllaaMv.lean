/- The reference's machine: the simple steps as steps. Conditions: registers and numbers within bounds. -/
import Derived.Test.YtobikkdnalnllaaMq
namespace Go.Proofs.Ytobikkdnalnllaa
open Go.RowKit SL
attribute [local go_sem] cell_blk frozen_blk lt_blk cell_at frozen_row lt_row
set_option linter.unusedVariables false
set_option linter.unusedSimpArgs false

set_option maxRecDepth 100000 in
set_option maxHeartbeats 4000000 in
theorem spec_makeD (S : HP) (w : World) (A : Option Addr) (n c0 : Nat) (vt : Value) (A2 : Option Addr) (n2 c2 : Nat) (A3 : Option Addr) (n3 c3 : Nat) (m : SM) (c : SF) (r : R4s) (hr : c.regs = r.l) [H : SepI w (Row 75 3 vt m.trace.length (cEvs m.trace) * S)] (ht : m.trace.length ≤ 1048576) (fuel at_ : Int) (hat : 0 ≤ at_ ∧ at_ ≤ 1048576) (call : CallS) (k a b : Int) (hk : k = 1 ∨ k = 2 ∨ k = 3 ∨ k = 7 ∨ k = 9 ∨ k = 12 ∨ k = 13) (ha : Reg a) (hb : k = 2 → Reg b) (h16 : ∀ i : Nat, i < 4 → -32768 ≤ regAt r.l i ∧ regAt r.l i ≤ 32767) :
    Calls Try.prog 117 #[mV (.slice A n c0) vt (.slice A2 n2 c2) fuel m, fV c r (.slice A3 n3 c3), .int .i64 at_, .agg #[.int .i64 k, .int .i64 a, .int .i64 b]] w (MakeT S (.slice A n c0) (.slice A2 n2 c2) (.slice A3 n3 c3) fuel (makeS call m c at_ ⟨k, a, b⟩) w) := by
  obtain ⟨sp, sh, mk, dp, t, sn⟩ := m
  obtain ⟨f, dep, rg, dfs, ki, va, lv, df, pg, pa, rc, ou⟩ := c
  simp only at hr
  subst hr
  simp only at H ht
  obtain ⟨A1, c1, rfl, hc1, hc1'⟩ := Row.form H
  have HC := Hd.mk hc1
  clear hc1 hc1'
  have HK := Hd.mk hk
  have HA := Hd.mk ha
  have HB := Hd.mk hb
  have H16 := Hd.mk h16
  have k4 : (k == 4) = false := beq_eq_false_iff_ne.2 (by omega)
  have k5 : (k == 5) = false := beq_eq_false_iff_ne.2 (by omega)
  have k6 : (k == 6) = false := beq_eq_false_iff_ne.2 (by omega)
  have k8 : (k == 8) = false := beq_eq_false_iff_ne.2 (by omega)
  have k10 : (k == 10) = false := beq_eq_false_iff_ne.2 (by omega)
  have k11 : (k == 11) = false := beq_eq_false_iff_ne.2 (by omega)
  obtain ⟨q, hq⟩ : ∃ q, simpleS (⟨sp, sh, mk, dp, t, sn⟩ : SM) (⟨f, dep, r.l, dfs, ki, va, lv, df, pg, pa, rc, ou⟩ : SF) ⟨k, a, b⟩ = q := ⟨_, rfl⟩
  have HQ0 : Hd (makeS call (⟨sp, sh, mk, dp, t, sn⟩ : SM) (⟨f, dep, r.l, dfs, ki, va, lv, df, pg, pa, rc, ou⟩ : SF) at_ ⟨k, a, b⟩ = (q.1, q.2, at_ + 1)) := ⟨by
    rw [← hq]
    unfold makeS
    simp only
    rw [if_neg (by omega), if_neg (by omega), if_neg (by omega), if_neg (by omega), if_neg (by omega), if_neg (by omega)]⟩
  have HQ1 := Hd.mk hq
  clear hk ha hb h16 hq
  have hw : IntKind.i64.wrap (at_ + 1) = at_ + 1 := IntWalk.i64_in _ (by omega)
  go_enter Try.func117, Try.ntmps117
  go_wp2_with fail
  refine (@spec_l2Simple _ _ A n c0 (.slice A1 t.length c1) A2 n2 c2 A3 n3 c3 (⟨sp, sh, mk, dp, t, sn⟩ : SM) (⟨f, dep, r.l, dfs, ki, va, lv, df, pg, pa, rc, ou⟩ : SF) r rfl (SepI.pickR (S := _) inferInstance inferInstance) ht fuel ⟨k, a, b⟩ HK.out HA.out HB.out H16.out).mono ?_
  rintro e w4 ⟨vt4, r', rfl, hr', HP⟩
  rw [HQ1.out] at hr' HP ⊢
  obtain ⟨⟨sp', sh', mk', dp', t', sn'⟩, ⟨f', dep', rg', dfs', ki', va', lv', df', pg', pa', rc', ou'⟩⟩ := q
  simp only at hr' HP
  subst hr'
  have HQ := HQ0
  simp only at HQ
  have HS4 := HP.sep
  have HE4 := HP.ext
  clear HP HQ0 HQ1
  obtain ⟨A4, c4, rfl, hc4, hc4'⟩ := Row.form HS4
  simp only []
  rename_i hK
  refine hK _ _ ?_
  refine ev_val rfl _ rfl ?_
  refine ev_val rfl _ rfl ?_
  refine ev_val rfl _ rfl ?_
  refine ev_store rfl 121 _ _ rfl (w.heap.size) #[Value.slice A n c0, .int .i64 fuel, .bool sp', .int .i64 sh', .int .i64 (mk' : Int), .int .i64 dp', .slice A4 t'.length c4, .slice A2 n2 c2] rfl rfl info_sm (by rfl) (by simp [Value.oneCell']) ?_
  intro w5 HS5 HE5
  refine ev_store rfl 123 _ _ rfl (w.heap.size + 1) #[Value.int .i64 f', .int .i64 dep', .int .i64 r'.a, .int .i64 r'.b, .int .i64 r'.c, .int .i64 r'.d, .slice A3 n3 c3, .int .i64 ki', .int .i64 va', .bool lv', .bool df', .bool pg', .int .i64 pa', .bool rc', .int .i64 ou'] rfl rfl info_sf (by rfl) (by simp [Value.oneCell']) ?_
  intro w6 HS6 HE6
  go_wp2
  refine wp_region_T 6 (by kernel_rfl) (by kernel_rfl) (fun w' => w'.cell? ⟨w.heap.size, 0, none⟩ = some (.slice A n c0) ∧ w'.cell? ⟨w.heap.size, 1, none⟩ = some (.int .i64 fuel) ∧ w'.cell? ⟨w.heap.size, 2, none⟩ = some (.bool sp') ∧ w'.cell? ⟨w.heap.size, 3, none⟩ = some (.int .i64 sh') ∧ w'.cell? ⟨w.heap.size, 4, none⟩ = some (.int .i64 (mk' : Int)) ∧ w'.cell? ⟨w.heap.size, 5, none⟩ = some (.int .i64 dp') ∧ w'.cell? ⟨w.heap.size, 6, none⟩ = some (.slice A4 t'.length c4) ∧ w'.cell? ⟨w.heap.size, 7, none⟩ = some (.slice A2 n2 c2) ∧ w'.cell? ⟨w.heap.size + 1, 0, none⟩ = some (.int .i64 f') ∧ w'.cell? ⟨w.heap.size + 1, 1, none⟩ = some (.int .i64 dep') ∧ w'.cell? ⟨w.heap.size + 1, 2, none⟩ = some (.int .i64 r'.a) ∧ w'.cell? ⟨w.heap.size + 1, 3, none⟩ = some (.int .i64 r'.b) ∧ w'.cell? ⟨w.heap.size + 1, 4, none⟩ = some (.int .i64 r'.c) ∧ w'.cell? ⟨w.heap.size + 1, 5, none⟩ = some (.int .i64 r'.d) ∧ w'.cell? ⟨w.heap.size + 1, 6, none⟩ = some (.slice A3 n3 c3) ∧ w'.cell? ⟨w.heap.size + 1, 7, none⟩ = some (.int .i64 ki') ∧ w'.cell? ⟨w.heap.size + 1, 8, none⟩ = some (.int .i64 va') ∧ w'.cell? ⟨w.heap.size + 1, 9, none⟩ = some (.bool lv') ∧ w'.cell? ⟨w.heap.size + 1, 10, none⟩ = some (.bool df') ∧ w'.cell? ⟨w.heap.size + 1, 11, none⟩ = some (.bool pg') ∧ w'.cell? ⟨w.heap.size + 1, 12, none⟩ = some (.int .i64 pa') ∧ w'.cell? ⟨w.heap.size + 1, 13, none⟩ = some (.bool rc') ∧ w'.cell? ⟨w.heap.size + 1, 14, none⟩ = some (.int .i64 ou')) ⟨cb, cb, cb, cb, cb, cb, cb, cb, cb, cb, cb, cb, cb, cb, cb, cb, cb, cb, cb, cb, cb, cb, cb⟩ (fun hHeld => ?_)
  refine wpAnyT_takeL (i := 0) (v := ?_) rfl (by kernel_rfl) (by kernel_rfl) (by kernel_rfl) (by kernel_rfl) (by kernel_rfl) (fun _ _ _ h => h) (Or.inl ⟨by rfl, ?_⟩) (by assumption) ?_
  rotate_left
  · (intro w hSw; (try dsimp only at hSw); go_simp; try with_reducible rfl)
  try simp only [Act.put, List.setIfInBounds_toArray, List.set_cons_zero, List.set_cons_succ]
  refine wpAnyT_takeL (i := 1) (v := ?_) rfl (by kernel_rfl) (by kernel_rfl) (by kernel_rfl) (by kernel_rfl) (by kernel_rfl) (fun _ _ _ h => h) (Or.inl ⟨by rfl, ?_⟩) (by assumption) ?_
  rotate_left
  · (intro w hSw; (try dsimp only at hSw); go_simp; try with_reducible rfl)
  try simp only [Act.put, List.setIfInBounds_toArray, List.set_cons_zero, List.set_cons_succ]
  refine wpAnyT_takeL (i := 2) (v := ?_) rfl (by kernel_rfl) (by kernel_rfl) (by kernel_rfl) (by kernel_rfl) (by kernel_rfl) (fun _ _ _ h => h) (Or.inl ⟨by rfl, ?_⟩) (by assumption) ?_
  rotate_left
  · (intro w hSw; (try dsimp only at hSw); go_simp; try with_reducible rfl)
  try simp only [Act.put, List.setIfInBounds_toArray, List.set_cons_zero, List.set_cons_succ]
  refine wpAnyT_takeL (i := 3) (v := ?_) rfl (by kernel_rfl) (by kernel_rfl) (by kernel_rfl) (by kernel_rfl) (by kernel_rfl) (fun _ _ _ h => h) (Or.inl ⟨by rfl, ?_⟩) (by assumption) ?_
  rotate_left
  · (intro w hSw; (try dsimp only at hSw); go_simp; try with_reducible rfl)
  try simp only [Act.put, List.setIfInBounds_toArray, List.set_cons_zero, List.set_cons_succ]
  refine wpAnyT_one (i := 4) (by kernel_rfl) rfl (by kernel_rfl) (fun KK hKK => ?_)
  refine st_list rfl (ev_store rfl 121 _ _ rfl (w.heap.size + 1 + 1 + 1) #[Value.slice A n c0, .int .i64 fuel, .bool sp', .int .i64 sh', .int .i64 (mk' : Int), .int .i64 dp', .slice A4 t'.length c4, .slice A2 n2 c2] rfl rfl info_sm (by rfl) (by simp [Value.oneCell']) ?_)
  intro w8 HS8 HE8
  refine ⟨rfl, ?_⟩
  refine hKK.out _ _ ⟨cb, cb, cb, cb, cb, cb, cb, cb, cb, cb, cb, cb, cb, cb, cb, cb, cb, cb, cb, cb, cb, cb, cb⟩ (fun hHeld => ?_)
  clear hKK KK
  try simp only [Act.put, List.setIfInBounds_toArray, List.set_cons_zero, List.set_cons_succ]
  refine wpAnyT_one (i := 5) (by kernel_rfl) rfl (by kernel_rfl) (fun KK hKK => ?_)
  refine st_list rfl (ev_store rfl 123 _ _ rfl (w.heap.size + 1 + 1 + 1 + 1) #[Value.int .i64 f', .int .i64 dep', .int .i64 r'.a, .int .i64 r'.b, .int .i64 r'.c, .int .i64 r'.d, .slice A3 n3 c3, .int .i64 ki', .int .i64 va', .bool lv', .bool df', .bool pg', .int .i64 pa', .bool rc', .int .i64 ou'] rfl rfl info_sf (by rfl) (by simp [Value.oneCell']) ?_)
  intro w9 HS9 HE9
  refine ⟨rfl, ?_⟩
  refine hKK.out _ _ ⟨cb, cb, cb, cb, cb, cb, cb, cb, cb, cb, cb, cb, cb, cb, cb, cb, cb, cb, cb, cb, cb, cb, cb⟩ (fun hHeld => ?_)
  clear hKK KK
  try simp only [Act.put, List.setIfInBounds_toArray, List.set_cons_zero, List.set_cons_succ]
  refine wpAnyT_done (by kernel_rfl) ?_
  go_wp2
  refine bodyPost_ret (v := .tuple #[mV (.slice A n c0) (.slice A4 t'.length c4) (.slice A2 n2 c2) fuel (⟨sp', sh', mk', dp', t', sn'⟩ : SM), fV (⟨f', dep', r'.l, dfs', ki', va', lv', df', pg', pa', rc', ou'⟩ : SF) r' (.slice A3 n3 c3), .int .i64 (at_ + 1)]) (by simp [results, Try.results117, go_sem]) rfl ?_
  exact MakeT.of (m' := (⟨sp', sh', mk', dp', t', sn'⟩ : SM)) (c' := (⟨f', dep', r'.l, dfs', ki', va', lv', df', pg', pa', rc', ou'⟩ : SF)) (at_ := at_ + 1) (r := r') (vt := .slice A4 t'.length c4) HQ.out rfl (Post.mk' (Ent.sep (S := _) (T := Row 75 3 (.slice A4 t'.length c4) t'.length (cEvs t') * S) inferInstance inferInstance) inferInstance)
end Go.Proofs.Ytobikkdnalnllaa
