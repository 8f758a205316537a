/- The reference's machine: the step that recovers. Conditions: registers and numbers within bounds. -/
import Derived.Test.YtobikkdnalnllaaQc
namespace Go.Proofs.Ytobikkdnalnllaa
open Go.RowKit SL
attribute [local go_sem] cell_blk frozen_blk lt_blk cell_at frozen_row lt_row
set_option linter.unusedVariables false
set_option linter.unusedSimpArgs false

set_option maxRecDepth 100000 in
set_option maxHeartbeats 2000000 in
theorem spec_simple7 (S : HP) (w : World) (A : Option Addr) (n c0 : Nat) (vt : Value) (A2 : Option Addr) (n2 c2 : Nat) (A3 : Option Addr) (n3 c3 : Nat) (m : SM) (c : SF) (r : R4s) (hr : c.regs = r.l) [H : SepI w (Row 75 3 vt m.trace.length (cEvs m.trace) * S)] (ht : m.trace.length ≤ 1048576) (fuel : Int) (a : Nat) (ha : a < 4) (b : Int) :
    Calls Try.prog 133 #[mV (.slice A n c0) vt (.slice A2 n2 c2) fuel m, fV c r (.slice A3 n3 c3), .agg #[.int .i64 7, .int .i64 a, .int .i64 b]] w (StepS S (.slice A n c0) (.slice A2 n2 c2) (.slice A3 n3 c3) fuel (simpleS m c ⟨7, a, b⟩) w) := by
  obtain ⟨sp, sh, mk, dp, t, sn⟩ := m
  obtain ⟨f, dep, rg, dfs, ki, va, lv, df, pg, pa, rc, ou⟩ := c
  simp only at hr
  subst hr
  simp only at H ht 
  obtain ⟨A1, c1, rfl, hc1, hc1'⟩ := Row.form H
  have HC := Hd.mk hc1
  have haI : (a : Int) < 4 := by omega
  clear hc1 hc1'
  cases pg
  · cases rc
    · have HQ : Hd (simpleS (⟨sp, sh, mk, dp, t, sn⟩ : SM) (⟨f, dep, r.l, dfs, ki, va, lv, df, false, pa, false, ou⟩ : SF) ⟨7, a, b⟩ = ((⟨sp, sh, mk, dp, t, sn⟩ : SM), (⟨f, dep, regSet (regSet r.l a 0) 3 0, dfs, ki, va, lv, df, false, pa, false, ou⟩ : SF))) := ⟨by rfl⟩
      obtain ⟨r1, Hr1⟩ : ∃ q : R4s, Hd (q = r.set a (0)) := ⟨_, ⟨rfl⟩⟩
      have hset : #[Value.int .i64 f, .int .i64 dep, .int .i64 r.a, .int .i64 r.b, .int .i64 r.c, .int .i64 r.d, .slice A3 n3 c3, .int .i64 ki, .int .i64 va, .bool lv, .bool df, .bool false, .int .i64 pa, .bool false, .int .i64 ou].setIfInBounds (2 + a) (.int .i64 (0)) = #[Value.int .i64 f, .int .i64 dep, .int .i64 r1.a, .int .i64 r1.b, .int .i64 r1.c, .int .i64 r1.d, .slice A3 n3 c3, .int .i64 ki, .int .i64 va, .bool lv, .bool df, .bool false, .int .i64 pa, .bool false, .int .i64 ou] := fr_set (k := a) (by omega) Hr1.out
      have hget : #[Value.int .i64 f, .int .i64 dep, .int .i64 r.a, .int .i64 r.b, .int .i64 r.c, .int .i64 r.d, .slice A3 n3 c3, .int .i64 ki, .int .i64 va, .bool lv, .bool df, .bool false, .int .i64 pa, .bool false, .int .i64 ou][2 + a]? = some (.int .i64 (regAt r.l a)) := fr_get (by omega)
      go_enter Try.func133, Try.ntmps133
      go_wp2
      refine wp_region_T 3 (by kernel_rfl) (by kernel_rfl) (fun w' => w'.cell? ⟨w.heap.size, 0, none⟩ = some (.slice A n c0) ∧ w'.cell? ⟨w.heap.size, 1, none⟩ = some (.int .i64 fuel) ∧ w'.cell? ⟨w.heap.size, 2, none⟩ = some (.bool sp) ∧ w'.cell? ⟨w.heap.size, 3, none⟩ = some (.int .i64 sh) ∧ w'.cell? ⟨w.heap.size, 4, none⟩ = some (.int .i64 (mk : Int)) ∧ w'.cell? ⟨w.heap.size, 5, none⟩ = some (.int .i64 dp) ∧ w'.cell? ⟨w.heap.size, 6, none⟩ = some (.slice A1 t.length c1) ∧ w'.cell? ⟨w.heap.size, 7, none⟩ = some (.slice A2 n2 c2) ∧ w'.cell? ⟨w.heap.size + 1, 0, none⟩ = some (.int .i64 f) ∧ w'.cell? ⟨w.heap.size + 1, 1, none⟩ = some (.int .i64 dep) ∧ w'.cell? ⟨w.heap.size + 1, 2, none⟩ = some (.int .i64 r1.a) ∧ w'.cell? ⟨w.heap.size + 1, 3, none⟩ = some (.int .i64 r1.b) ∧ w'.cell? ⟨w.heap.size + 1, 4, none⟩ = some (.int .i64 r1.c) ∧ w'.cell? ⟨w.heap.size + 1, 5, none⟩ = some (.int .i64 0) ∧ w'.cell? ⟨w.heap.size + 1, 6, none⟩ = some (.slice A3 n3 c3) ∧ w'.cell? ⟨w.heap.size + 1, 7, none⟩ = some (.int .i64 ki) ∧ w'.cell? ⟨w.heap.size + 1, 8, none⟩ = some (.int .i64 va) ∧ w'.cell? ⟨w.heap.size + 1, 9, none⟩ = some (.bool lv) ∧ w'.cell? ⟨w.heap.size + 1, 10, none⟩ = some (.bool df) ∧ w'.cell? ⟨w.heap.size + 1, 11, none⟩ = some (.bool false) ∧ w'.cell? ⟨w.heap.size + 1, 12, none⟩ = some (.int .i64 pa) ∧ w'.cell? ⟨w.heap.size + 1, 13, none⟩ = some (.bool false) ∧ w'.cell? ⟨w.heap.size + 1, 14, none⟩ = some (.int .i64 ou)) ⟨cb, cb, cb, cb, cb, cb, cb, cb, cb, cb, cb, cb, cb, cb, cb, cb, cb, cb, cb, cb, cb, cb, cb⟩ (fun hHeld => ?_)
      refine wpAnyT_takeL (i := 0) (v := ?_) rfl (by kernel_rfl) (by kernel_rfl) (by kernel_rfl) (by kernel_rfl) (by kernel_rfl) (fun _ _ _ h => h) (Or.inl ⟨by rfl, ?_⟩) (by assumption) ?_
      rotate_left
      · (intro w hSw; (try dsimp only at hSw); go_simp; try with_reducible rfl)
      try simp only [Act.put, List.setIfInBounds_toArray, List.set_cons_zero, List.set_cons_succ]
      refine wpAnyT_takeL (i := 1) (v := ?_) rfl (by kernel_rfl) (by kernel_rfl) (by kernel_rfl) (by kernel_rfl) (by kernel_rfl) (fun _ _ _ h => h) (Or.inl ⟨by rfl, ?_⟩) (by assumption) ?_
      rotate_left
      · (intro w hSw; (try dsimp only at hSw); go_simp; try with_reducible rfl)
      try simp only [Act.put, List.setIfInBounds_toArray, List.set_cons_zero, List.set_cons_succ]
      refine wpAnyT_one (i := 2) (by kernel_rfl) rfl (by kernel_rfl) (fun KK hKK => ?_)
      refine st_list rfl (ev_store rfl 121 _ _ rfl (w.heap.size + 1 + 1 + 1) #[Value.slice A n c0, .int .i64 fuel, .bool sp, .int .i64 sh, .int .i64 (mk : Int), .int .i64 dp, .slice A1 t.length c1, .slice A2 n2 c2] rfl rfl info_sm (by rfl) (by simp [Value.oneCell']) ?_)
      intro w8 HS8 HE8
      refine ⟨rfl, ?_⟩
      refine hKK.out _ _ ⟨cb, cb, cb, cb, cb, cb, cb, cb, cb, cb, cb, cb, cb, cb, cb, cb, cb, cb, cb, cb, cb, cb, cb⟩ (fun hHeld => ?_)
      clear hKK KK
      try simp only [Act.put, List.setIfInBounds_toArray, List.set_cons_zero, List.set_cons_succ]
      refine wpAnyT_done (by kernel_rfl) ?_
      refine ev_store rfl 123 _ _ rfl (w.heap.size + 1 + 1 + 1 + 1) #[Value.int .i64 f, .int .i64 dep, .int .i64 r1.a, .int .i64 r1.b, .int .i64 r1.c, .int .i64 0, .slice A3 n3 c3, .int .i64 ki, .int .i64 va, .bool lv, .bool df, .bool false, .int .i64 pa, .bool false, .int .i64 ou] rfl rfl info_sf (by rfl) (by simp [Value.oneCell']) ?_
      intro w9 HS9 HE9
      go_wp2
      refine bodyPost_ret (v := .tuple #[mV (.slice A n c0) (.slice A1 t.length c1) (.slice A2 n2 c2) fuel (⟨sp, sh, mk, dp, t, sn⟩ : SM), fV (⟨f, dep, regSet (regSet r.l a 0) 3 0, dfs, ki, va, lv, df, false, pa, false, ou⟩ : SF) (⟨r1.a, r1.b, r1.c, 0⟩ : R4s) (.slice A3 n3 c3)]) (by simp [results, Try.results133, go_sem]) rfl ?_
      exact StepS.of (m' := (⟨sp, sh, mk, dp, t, sn⟩ : SM)) (c' := (⟨f, dep, regSet (regSet r.l a 0) 3 0, dfs, ki, va, lv, df, false, pa, false, ou⟩ : SF)) (r := (⟨r1.a, r1.b, r1.c, 0⟩ : R4s)) (vt := .slice A1 t.length c1) HQ.out (by rw [Hr1.out]; show regSet (regSet r.l a 0) 3 0 = _; rw [R4s.set_l r ha 0]; rfl) (Post.mk' (Ent.sep (S := _) (T := Row 75 3 (.slice A1 t.length c1) t.length (cEvs t) * S) inferInstance inferInstance) inferInstance)
    · have HQ : Hd (simpleS (⟨sp, sh, mk, dp, t, sn⟩ : SM) (⟨f, dep, r.l, dfs, ki, va, lv, df, false, pa, true, ou⟩ : SF) ⟨7, a, b⟩ = ((⟨sp, sh, mk, dp, t, sn⟩ : SM), (⟨f, dep, regSet (regSet r.l a 0) 3 0, dfs, ki, va, lv, df, false, pa, true, ou⟩ : SF))) := ⟨by rfl⟩
      obtain ⟨r1, Hr1⟩ : ∃ q : R4s, Hd (q = r.set a (0)) := ⟨_, ⟨rfl⟩⟩
      have hset : #[Value.int .i64 f, .int .i64 dep, .int .i64 r.a, .int .i64 r.b, .int .i64 r.c, .int .i64 r.d, .slice A3 n3 c3, .int .i64 ki, .int .i64 va, .bool lv, .bool df, .bool false, .int .i64 pa, .bool true, .int .i64 ou].setIfInBounds (2 + a) (.int .i64 (0)) = #[Value.int .i64 f, .int .i64 dep, .int .i64 r1.a, .int .i64 r1.b, .int .i64 r1.c, .int .i64 r1.d, .slice A3 n3 c3, .int .i64 ki, .int .i64 va, .bool lv, .bool df, .bool false, .int .i64 pa, .bool true, .int .i64 ou] := fr_set (k := a) (by omega) Hr1.out
      have hget : #[Value.int .i64 f, .int .i64 dep, .int .i64 r.a, .int .i64 r.b, .int .i64 r.c, .int .i64 r.d, .slice A3 n3 c3, .int .i64 ki, .int .i64 va, .bool lv, .bool df, .bool false, .int .i64 pa, .bool true, .int .i64 ou][2 + a]? = some (.int .i64 (regAt r.l a)) := fr_get (by omega)
      go_enter Try.func133, Try.ntmps133
      go_wp2
      refine wp_region_T 3 (by kernel_rfl) (by kernel_rfl) (fun w' => w'.cell? ⟨w.heap.size, 0, none⟩ = some (.slice A n c0) ∧ w'.cell? ⟨w.heap.size, 1, none⟩ = some (.int .i64 fuel) ∧ w'.cell? ⟨w.heap.size, 2, none⟩ = some (.bool sp) ∧ w'.cell? ⟨w.heap.size, 3, none⟩ = some (.int .i64 sh) ∧ w'.cell? ⟨w.heap.size, 4, none⟩ = some (.int .i64 (mk : Int)) ∧ w'.cell? ⟨w.heap.size, 5, none⟩ = some (.int .i64 dp) ∧ w'.cell? ⟨w.heap.size, 6, none⟩ = some (.slice A1 t.length c1) ∧ w'.cell? ⟨w.heap.size, 7, none⟩ = some (.slice A2 n2 c2) ∧ w'.cell? ⟨w.heap.size + 1, 0, none⟩ = some (.int .i64 f) ∧ w'.cell? ⟨w.heap.size + 1, 1, none⟩ = some (.int .i64 dep) ∧ w'.cell? ⟨w.heap.size + 1, 2, none⟩ = some (.int .i64 r1.a) ∧ w'.cell? ⟨w.heap.size + 1, 3, none⟩ = some (.int .i64 r1.b) ∧ w'.cell? ⟨w.heap.size + 1, 4, none⟩ = some (.int .i64 r1.c) ∧ w'.cell? ⟨w.heap.size + 1, 5, none⟩ = some (.int .i64 0) ∧ w'.cell? ⟨w.heap.size + 1, 6, none⟩ = some (.slice A3 n3 c3) ∧ w'.cell? ⟨w.heap.size + 1, 7, none⟩ = some (.int .i64 ki) ∧ w'.cell? ⟨w.heap.size + 1, 8, none⟩ = some (.int .i64 va) ∧ w'.cell? ⟨w.heap.size + 1, 9, none⟩ = some (.bool lv) ∧ w'.cell? ⟨w.heap.size + 1, 10, none⟩ = some (.bool df) ∧ w'.cell? ⟨w.heap.size + 1, 11, none⟩ = some (.bool false) ∧ w'.cell? ⟨w.heap.size + 1, 12, none⟩ = some (.int .i64 pa) ∧ w'.cell? ⟨w.heap.size + 1, 13, none⟩ = some (.bool true) ∧ w'.cell? ⟨w.heap.size + 1, 14, none⟩ = some (.int .i64 ou)) ⟨cb, cb, cb, cb, cb, cb, cb, cb, cb, cb, cb, cb, cb, cb, cb, cb, cb, cb, cb, cb, cb, cb, cb⟩ (fun hHeld => ?_)
      refine wpAnyT_takeL (i := 0) (v := ?_) rfl (by kernel_rfl) (by kernel_rfl) (by kernel_rfl) (by kernel_rfl) (by kernel_rfl) (fun _ _ _ h => h) (Or.inl ⟨by rfl, ?_⟩) (by assumption) ?_
      rotate_left
      · (intro w hSw; (try dsimp only at hSw); go_simp; try with_reducible rfl)
      try simp only [Act.put, List.setIfInBounds_toArray, List.set_cons_zero, List.set_cons_succ]
      refine wpAnyT_takeL (i := 1) (v := ?_) rfl (by kernel_rfl) (by kernel_rfl) (by kernel_rfl) (by kernel_rfl) (by kernel_rfl) (fun _ _ _ h => h) (Or.inl ⟨by rfl, ?_⟩) (by assumption) ?_
      rotate_left
      · (intro w hSw; (try dsimp only at hSw); go_simp; try with_reducible rfl)
      try simp only [Act.put, List.setIfInBounds_toArray, List.set_cons_zero, List.set_cons_succ]
      refine wpAnyT_one (i := 2) (by kernel_rfl) rfl (by kernel_rfl) (fun KK hKK => ?_)
      refine st_list rfl (ev_store rfl 121 _ _ rfl (w.heap.size + 1 + 1 + 1) #[Value.slice A n c0, .int .i64 fuel, .bool sp, .int .i64 sh, .int .i64 (mk : Int), .int .i64 dp, .slice A1 t.length c1, .slice A2 n2 c2] rfl rfl info_sm (by rfl) (by simp [Value.oneCell']) ?_)
      intro w8 HS8 HE8
      refine ⟨rfl, ?_⟩
      refine hKK.out _ _ ⟨cb, cb, cb, cb, cb, cb, cb, cb, cb, cb, cb, cb, cb, cb, cb, cb, cb, cb, cb, cb, cb, cb, cb⟩ (fun hHeld => ?_)
      clear hKK KK
      try simp only [Act.put, List.setIfInBounds_toArray, List.set_cons_zero, List.set_cons_succ]
      refine wpAnyT_done (by kernel_rfl) ?_
      refine ev_store rfl 123 _ _ rfl (w.heap.size + 1 + 1 + 1 + 1) #[Value.int .i64 f, .int .i64 dep, .int .i64 r1.a, .int .i64 r1.b, .int .i64 r1.c, .int .i64 0, .slice A3 n3 c3, .int .i64 ki, .int .i64 va, .bool lv, .bool df, .bool false, .int .i64 pa, .bool true, .int .i64 ou] rfl rfl info_sf (by rfl) (by simp [Value.oneCell']) ?_
      intro w9 HS9 HE9
      go_wp2
      refine bodyPost_ret (v := .tuple #[mV (.slice A n c0) (.slice A1 t.length c1) (.slice A2 n2 c2) fuel (⟨sp, sh, mk, dp, t, sn⟩ : SM), fV (⟨f, dep, regSet (regSet r.l a 0) 3 0, dfs, ki, va, lv, df, false, pa, true, ou⟩ : SF) (⟨r1.a, r1.b, r1.c, 0⟩ : R4s) (.slice A3 n3 c3)]) (by simp [results, Try.results133, go_sem]) rfl ?_
      exact StepS.of (m' := (⟨sp, sh, mk, dp, t, sn⟩ : SM)) (c' := (⟨f, dep, regSet (regSet r.l a 0) 3 0, dfs, ki, va, lv, df, false, pa, true, ou⟩ : SF)) (r := (⟨r1.a, r1.b, r1.c, 0⟩ : R4s)) (vt := .slice A1 t.length c1) HQ.out (by rw [Hr1.out]; show regSet (regSet r.l a 0) 3 0 = _; rw [R4s.set_l r ha 0]; rfl) (Post.mk' (Ent.sep (S := _) (T := Row 75 3 (.slice A1 t.length c1) t.length (cEvs t) * S) inferInstance inferInstance) inferInstance)
  · cases rc
    · obtain ⟨t4, HT4⟩ : ∃ q : List Ev, Hd (q = t ++ [(⟨6, f, pa⟩ : Ev)]) := ⟨_, ⟨rfl⟩⟩
      have HQ : Hd (simpleS (⟨sp, sh, mk, dp, t, sn⟩ : SM) (⟨f, dep, r.l, dfs, ki, va, lv, df, true, pa, false, ou⟩ : SF) ⟨7, a, b⟩ = ((⟨sp, sh, mk, dp, t4, sn⟩ : SM), (⟨f, dep, regSet (regSet r.l a pa) 3 1, dfs, ki, va, lv, df, true, pa, true, ou⟩ : SF))) := ⟨by rw [HT4.out]; rfl⟩
      obtain ⟨r1, Hr1⟩ : ∃ q : R4s, Hd (q = r.set a (pa)) := ⟨_, ⟨rfl⟩⟩
      have hset : #[Value.int .i64 f, .int .i64 dep, .int .i64 r.a, .int .i64 r.b, .int .i64 r.c, .int .i64 r.d, .slice A3 n3 c3, .int .i64 ki, .int .i64 va, .bool lv, .bool df, .bool true, .int .i64 pa, .bool true, .int .i64 ou].setIfInBounds (2 + a) (.int .i64 (pa)) = #[Value.int .i64 f, .int .i64 dep, .int .i64 r1.a, .int .i64 r1.b, .int .i64 r1.c, .int .i64 r1.d, .slice A3 n3 c3, .int .i64 ki, .int .i64 va, .bool lv, .bool df, .bool true, .int .i64 pa, .bool true, .int .i64 ou] := fr_set (k := a) (by omega) Hr1.out
      have hget : #[Value.int .i64 f, .int .i64 dep, .int .i64 r.a, .int .i64 r.b, .int .i64 r.c, .int .i64 r.d, .slice A3 n3 c3, .int .i64 ki, .int .i64 va, .bool lv, .bool df, .bool true, .int .i64 pa, .bool true, .int .i64 ou][2 + a]? = some (.int .i64 (regAt r.l a)) := fr_get (by omega)
      go_enter Try.func133, Try.ntmps133
      go_wp2_with fail
      refine (@spec_l2Tell _ _ A n c0 (.slice A1 t.length c1) A2 n2 c2 t (SepI.pickR (S := _) inferInstance inferInstance) ht fuel sh mk dp sp 6 f pa).mono ?_
      rintro e w4 ⟨vt4, rfl, HP⟩
      rw [← HT4.out] at HP
      have HS4 := HP.sep
      have HE4 := HP.ext
      clear HP
      obtain ⟨A4, c4, rfl, hc4, hc4'⟩ := Row.form HS4
      simp only []
      rename_i hK
      refine hK _ _ ?_
      refine ev_store rfl 121 _ _ rfl (w.heap.size) #[Value.slice A n c0, .int .i64 fuel, .bool sp, .int .i64 sh, .int .i64 (mk : Int), .int .i64 dp, .slice A4 t4.length c4, .slice A2 n2 c2] rfl rfl info_sm (by rfl) (by simp [Value.oneCell']) ?_
      intro w7 HS7 HE7
      go_wp2
      refine wp_region_T 3 (by kernel_rfl) (by kernel_rfl) (fun w' => w'.cell? ⟨w.heap.size, 0, none⟩ = some (.slice A n c0) ∧ w'.cell? ⟨w.heap.size, 1, none⟩ = some (.int .i64 fuel) ∧ w'.cell? ⟨w.heap.size, 2, none⟩ = some (.bool sp) ∧ w'.cell? ⟨w.heap.size, 3, none⟩ = some (.int .i64 sh) ∧ w'.cell? ⟨w.heap.size, 4, none⟩ = some (.int .i64 (mk : Int)) ∧ w'.cell? ⟨w.heap.size, 5, none⟩ = some (.int .i64 dp) ∧ w'.cell? ⟨w.heap.size, 6, none⟩ = some (.slice A4 t4.length c4) ∧ w'.cell? ⟨w.heap.size, 7, none⟩ = some (.slice A2 n2 c2) ∧ w'.cell? ⟨w.heap.size + 1, 0, none⟩ = some (.int .i64 f) ∧ w'.cell? ⟨w.heap.size + 1, 1, none⟩ = some (.int .i64 dep) ∧ w'.cell? ⟨w.heap.size + 1, 2, none⟩ = some (.int .i64 r1.a) ∧ w'.cell? ⟨w.heap.size + 1, 3, none⟩ = some (.int .i64 r1.b) ∧ w'.cell? ⟨w.heap.size + 1, 4, none⟩ = some (.int .i64 r1.c) ∧ w'.cell? ⟨w.heap.size + 1, 5, none⟩ = some (.int .i64 1) ∧ w'.cell? ⟨w.heap.size + 1, 6, none⟩ = some (.slice A3 n3 c3) ∧ w'.cell? ⟨w.heap.size + 1, 7, none⟩ = some (.int .i64 ki) ∧ w'.cell? ⟨w.heap.size + 1, 8, none⟩ = some (.int .i64 va) ∧ w'.cell? ⟨w.heap.size + 1, 9, none⟩ = some (.bool lv) ∧ w'.cell? ⟨w.heap.size + 1, 10, none⟩ = some (.bool df) ∧ w'.cell? ⟨w.heap.size + 1, 11, none⟩ = some (.bool true) ∧ w'.cell? ⟨w.heap.size + 1, 12, none⟩ = some (.int .i64 pa) ∧ w'.cell? ⟨w.heap.size + 1, 13, none⟩ = some (.bool true) ∧ w'.cell? ⟨w.heap.size + 1, 14, none⟩ = some (.int .i64 ou)) ⟨cb, cb, cb, cb, cb, cb, cb, cb, cb, cb, cb, cb, cb, cb, cb, cb, cb, cb, cb, cb, cb, cb, cb⟩ (fun hHeld => ?_)
      refine wpAnyT_takeL (i := 0) (v := ?_) rfl (by kernel_rfl) (by kernel_rfl) (by kernel_rfl) (by kernel_rfl) (by kernel_rfl) (fun _ _ _ h => h) (Or.inl ⟨by rfl, ?_⟩) (by assumption) ?_
      rotate_left
      · (intro w hSw; (try dsimp only at hSw); go_simp; try with_reducible rfl)
      try simp only [Act.put, List.setIfInBounds_toArray, List.set_cons_zero, List.set_cons_succ]
      refine wpAnyT_takeL (i := 1) (v := ?_) rfl (by kernel_rfl) (by kernel_rfl) (by kernel_rfl) (by kernel_rfl) (by kernel_rfl) (fun _ _ _ h => h) (Or.inl ⟨by rfl, ?_⟩) (by assumption) ?_
      rotate_left
      · (intro w hSw; (try dsimp only at hSw); go_simp; try with_reducible rfl)
      try simp only [Act.put, List.setIfInBounds_toArray, List.set_cons_zero, List.set_cons_succ]
      refine wpAnyT_one (i := 2) (by kernel_rfl) rfl (by kernel_rfl) (fun KK hKK => ?_)
      refine st_list rfl (ev_store rfl 121 _ _ rfl (w.heap.size + 1 + 1 + 1) #[Value.slice A n c0, .int .i64 fuel, .bool sp, .int .i64 sh, .int .i64 (mk : Int), .int .i64 dp, .slice A4 t4.length c4, .slice A2 n2 c2] rfl rfl info_sm (by rfl) (by simp [Value.oneCell']) ?_)
      intro w8 HS8 HE8
      refine ⟨rfl, ?_⟩
      refine hKK.out _ _ ⟨cb, cb, cb, cb, cb, cb, cb, cb, cb, cb, cb, cb, cb, cb, cb, cb, cb, cb, cb, cb, cb, cb, cb⟩ (fun hHeld => ?_)
      clear hKK KK
      try simp only [Act.put, List.setIfInBounds_toArray, List.set_cons_zero, List.set_cons_succ]
      refine wpAnyT_done (by kernel_rfl) ?_
      refine ev_store rfl 123 _ _ rfl (w.heap.size + 1 + 1 + 1 + 1) #[Value.int .i64 f, .int .i64 dep, .int .i64 r1.a, .int .i64 r1.b, .int .i64 r1.c, .int .i64 1, .slice A3 n3 c3, .int .i64 ki, .int .i64 va, .bool lv, .bool df, .bool true, .int .i64 pa, .bool true, .int .i64 ou] rfl rfl info_sf (by rfl) (by simp [Value.oneCell']) ?_
      intro w9 HS9 HE9
      go_wp2
      refine bodyPost_ret (v := .tuple #[mV (.slice A n c0) (.slice A4 t4.length c4) (.slice A2 n2 c2) fuel (⟨sp, sh, mk, dp, t4, sn⟩ : SM), fV (⟨f, dep, regSet (regSet r.l a pa) 3 1, dfs, ki, va, lv, df, true, pa, true, ou⟩ : SF) (⟨r1.a, r1.b, r1.c, 1⟩ : R4s) (.slice A3 n3 c3)]) (by simp [results, Try.results133, go_sem]) rfl ?_
      exact StepS.of (m' := (⟨sp, sh, mk, dp, t4, sn⟩ : SM)) (c' := (⟨f, dep, regSet (regSet r.l a pa) 3 1, dfs, ki, va, lv, df, true, pa, true, ou⟩ : SF)) (r := (⟨r1.a, r1.b, r1.c, 1⟩ : R4s)) (vt := .slice A4 t4.length c4) HQ.out (by rw [Hr1.out]; show regSet (regSet r.l a pa) 3 1 = _; rw [R4s.set_l r ha pa]; rfl) (Post.mk' (Ent.sep (S := _) (T := Row 75 3 (.slice A4 t4.length c4) t4.length (cEvs t4) * S) inferInstance inferInstance) inferInstance)
    · have HQ : Hd (simpleS (⟨sp, sh, mk, dp, t, sn⟩ : SM) (⟨f, dep, r.l, dfs, ki, va, lv, df, true, pa, true, ou⟩ : SF) ⟨7, a, b⟩ = ((⟨sp, sh, mk, dp, t, sn⟩ : SM), (⟨f, dep, regSet (regSet r.l a 0) 3 0, dfs, ki, va, lv, df, true, pa, true, ou⟩ : SF))) := ⟨by rfl⟩
      obtain ⟨r1, Hr1⟩ : ∃ q : R4s, Hd (q = r.set a (0)) := ⟨_, ⟨rfl⟩⟩
      have hset : #[Value.int .i64 f, .int .i64 dep, .int .i64 r.a, .int .i64 r.b, .int .i64 r.c, .int .i64 r.d, .slice A3 n3 c3, .int .i64 ki, .int .i64 va, .bool lv, .bool df, .bool true, .int .i64 pa, .bool true, .int .i64 ou].setIfInBounds (2 + a) (.int .i64 (0)) = #[Value.int .i64 f, .int .i64 dep, .int .i64 r1.a, .int .i64 r1.b, .int .i64 r1.c, .int .i64 r1.d, .slice A3 n3 c3, .int .i64 ki, .int .i64 va, .bool lv, .bool df, .bool true, .int .i64 pa, .bool true, .int .i64 ou] := fr_set (k := a) (by omega) Hr1.out
      have hget : #[Value.int .i64 f, .int .i64 dep, .int .i64 r.a, .int .i64 r.b, .int .i64 r.c, .int .i64 r.d, .slice A3 n3 c3, .int .i64 ki, .int .i64 va, .bool lv, .bool df, .bool true, .int .i64 pa, .bool true, .int .i64 ou][2 + a]? = some (.int .i64 (regAt r.l a)) := fr_get (by omega)
      go_enter Try.func133, Try.ntmps133
      go_wp2
      refine wp_region_T 3 (by kernel_rfl) (by kernel_rfl) (fun w' => w'.cell? ⟨w.heap.size, 0, none⟩ = some (.slice A n c0) ∧ w'.cell? ⟨w.heap.size, 1, none⟩ = some (.int .i64 fuel) ∧ w'.cell? ⟨w.heap.size, 2, none⟩ = some (.bool sp) ∧ w'.cell? ⟨w.heap.size, 3, none⟩ = some (.int .i64 sh) ∧ w'.cell? ⟨w.heap.size, 4, none⟩ = some (.int .i64 (mk : Int)) ∧ w'.cell? ⟨w.heap.size, 5, none⟩ = some (.int .i64 dp) ∧ w'.cell? ⟨w.heap.size, 6, none⟩ = some (.slice A1 t.length c1) ∧ w'.cell? ⟨w.heap.size, 7, none⟩ = some (.slice A2 n2 c2) ∧ w'.cell? ⟨w.heap.size + 1, 0, none⟩ = some (.int .i64 f) ∧ w'.cell? ⟨w.heap.size + 1, 1, none⟩ = some (.int .i64 dep) ∧ w'.cell? ⟨w.heap.size + 1, 2, none⟩ = some (.int .i64 r1.a) ∧ w'.cell? ⟨w.heap.size + 1, 3, none⟩ = some (.int .i64 r1.b) ∧ w'.cell? ⟨w.heap.size + 1, 4, none⟩ = some (.int .i64 r1.c) ∧ w'.cell? ⟨w.heap.size + 1, 5, none⟩ = some (.int .i64 0) ∧ w'.cell? ⟨w.heap.size + 1, 6, none⟩ = some (.slice A3 n3 c3) ∧ w'.cell? ⟨w.heap.size + 1, 7, none⟩ = some (.int .i64 ki) ∧ w'.cell? ⟨w.heap.size + 1, 8, none⟩ = some (.int .i64 va) ∧ w'.cell? ⟨w.heap.size + 1, 9, none⟩ = some (.bool lv) ∧ w'.cell? ⟨w.heap.size + 1, 10, none⟩ = some (.bool df) ∧ w'.cell? ⟨w.heap.size + 1, 11, none⟩ = some (.bool true) ∧ w'.cell? ⟨w.heap.size + 1, 12, none⟩ = some (.int .i64 pa) ∧ w'.cell? ⟨w.heap.size + 1, 13, none⟩ = some (.bool true) ∧ w'.cell? ⟨w.heap.size + 1, 14, none⟩ = some (.int .i64 ou)) ⟨cb, cb, cb, cb, cb, cb, cb, cb, cb, cb, cb, cb, cb, cb, cb, cb, cb, cb, cb, cb, cb, cb, cb⟩ (fun hHeld => ?_)
      refine wpAnyT_takeL (i := 0) (v := ?_) rfl (by kernel_rfl) (by kernel_rfl) (by kernel_rfl) (by kernel_rfl) (by kernel_rfl) (fun _ _ _ h => h) (Or.inl ⟨by rfl, ?_⟩) (by assumption) ?_
      rotate_left
      · (intro w hSw; (try dsimp only at hSw); go_simp; try with_reducible rfl)
      try simp only [Act.put, List.setIfInBounds_toArray, List.set_cons_zero, List.set_cons_succ]
      refine wpAnyT_takeL (i := 1) (v := ?_) rfl (by kernel_rfl) (by kernel_rfl) (by kernel_rfl) (by kernel_rfl) (by kernel_rfl) (fun _ _ _ h => h) (Or.inl ⟨by rfl, ?_⟩) (by assumption) ?_
      rotate_left
      · (intro w hSw; (try dsimp only at hSw); go_simp; try with_reducible rfl)
      try simp only [Act.put, List.setIfInBounds_toArray, List.set_cons_zero, List.set_cons_succ]
      refine wpAnyT_one (i := 2) (by kernel_rfl) rfl (by kernel_rfl) (fun KK hKK => ?_)
      refine st_list rfl (ev_store rfl 121 _ _ rfl (w.heap.size + 1 + 1 + 1) #[Value.slice A n c0, .int .i64 fuel, .bool sp, .int .i64 sh, .int .i64 (mk : Int), .int .i64 dp, .slice A1 t.length c1, .slice A2 n2 c2] rfl rfl info_sm (by rfl) (by simp [Value.oneCell']) ?_)
      intro w8 HS8 HE8
      refine ⟨rfl, ?_⟩
      refine hKK.out _ _ ⟨cb, cb, cb, cb, cb, cb, cb, cb, cb, cb, cb, cb, cb, cb, cb, cb, cb, cb, cb, cb, cb, cb, cb⟩ (fun hHeld => ?_)
      clear hKK KK
      try simp only [Act.put, List.setIfInBounds_toArray, List.set_cons_zero, List.set_cons_succ]
      refine wpAnyT_done (by kernel_rfl) ?_
      refine ev_store rfl 123 _ _ rfl (w.heap.size + 1 + 1 + 1 + 1) #[Value.int .i64 f, .int .i64 dep, .int .i64 r1.a, .int .i64 r1.b, .int .i64 r1.c, .int .i64 0, .slice A3 n3 c3, .int .i64 ki, .int .i64 va, .bool lv, .bool df, .bool true, .int .i64 pa, .bool true, .int .i64 ou] rfl rfl info_sf (by rfl) (by simp [Value.oneCell']) ?_
      intro w9 HS9 HE9
      go_wp2
      refine bodyPost_ret (v := .tuple #[mV (.slice A n c0) (.slice A1 t.length c1) (.slice A2 n2 c2) fuel (⟨sp, sh, mk, dp, t, sn⟩ : SM), fV (⟨f, dep, regSet (regSet r.l a 0) 3 0, dfs, ki, va, lv, df, true, pa, true, ou⟩ : SF) (⟨r1.a, r1.b, r1.c, 0⟩ : R4s) (.slice A3 n3 c3)]) (by simp [results, Try.results133, go_sem]) rfl ?_
      exact StepS.of (m' := (⟨sp, sh, mk, dp, t, sn⟩ : SM)) (c' := (⟨f, dep, regSet (regSet r.l a 0) 3 0, dfs, ki, va, lv, df, true, pa, true, ou⟩ : SF)) (r := (⟨r1.a, r1.b, r1.c, 0⟩ : R4s)) (vt := .slice A1 t.length c1) HQ.out (by rw [Hr1.out]; show regSet (regSet r.l a 0) 3 0 = _; rw [R4s.set_l r ha 0]; rfl) (Post.mk' (Ent.sep (S := _) (T := Row 75 3 (.slice A1 t.length c1) t.length (cEvs t) * S) inferInstance inferInstance) inferInstance)
end Go.Proofs.Ytobikkdnalnllaa
