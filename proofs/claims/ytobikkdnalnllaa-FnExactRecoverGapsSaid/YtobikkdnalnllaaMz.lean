/- The reference's machine: an inner call that exited, or was spent. Conditions: registers and numbers within bounds. -/
import Derived.Test.YtobikkdnalnllaaQc
namespace Go.Proofs.Ytobikkdnalnllaa
open Go.RowKit SL
attribute [local go_sem] cell_blk frozen_blk lt_blk cell_at frozen_row lt_row
set_option linter.unusedVariables false
set_option linter.unusedSimpArgs false

set_option maxRecDepth 100000 in
set_option maxHeartbeats 8000000 in
theorem spec_l2Inner3f (S : HP) (w : World) (A : Option Addr) (n c0 : Nat) (bs : List Bd) [rd : Rd S A (cBds bs)] [bd : Bodies S bs] (vt vs : Value) (A3 : Option Addr) (n3 c3 : Nat) (m : SM) (c : SF) (r : R4s) (hr : c.regs = r.l) [H0 : SepI w (Row 75 3 (vt) m.trace.length (cEvs m.trace) * (Row 112 2 (vs) m.seen.length (cPr m.seen) * S))] (fuel at_ : Int) (hat : 0 ≤ at_ ∧ at_ ≤ 1048576) (Pre : SM → SF → Prop) (call : CallS) (a : Int) (kb : Nat) (hkb : kb < 4) (hdep : 0 ≤ c.depth ∧ c.depth ≤ 1048576) (hcall : CallC A n c0 bs fuel (c.depth + 1) Pre call) (hpre : Pre m (freshIn c ⟨4, a, kb⟩)) (hkq : (call m (freshIn c ⟨4, a, kb⟩)).2.kind = 3) (hlv : c.lv = false) :
    Calls Try.prog 132 #[mV (.slice A n c0) vt vs fuel m, fV c r (.slice A3 n3 c3), .int .i64 at_, .agg #[.int .i64 4, .int .i64 a, .int .i64 (kb : Int)]] w (InnerP S (.slice A n c0) (.slice A3 n3 c3) fuel (innerS call m c at_ ⟨4, a, kb⟩) w) := by
  obtain ⟨sp, sh, mk, dp, t, sn⟩ := m
  obtain ⟨f, dep, rg, dfs, ki, va, lv, df, pg, pa, rc, ou⟩ := c
  simp only at hr hdep hcall hlv
  subst hr
  subst hlv
  simp only at H0
  obtain ⟨A1, c1, rfl, hc1, hc1'⟩ := Row.form H0
  obtain ⟨A2, c2, rfl, hc2, hc2'⟩ := Row.form H0.right
  have HC1 := Hd.mk hc1
  have HC2 := Hd.mk hc2
  clear hc1 hc1' hc2 hc2'
  have hbI : (kb : Int) < 4 := by omega
  have hw : IntKind.i64.wrap (at_ + 1) = at_ + 1 := IntWalk.i64_in _ (by omega)
  have hwd : IntKind.i64.wrap (dep + 1) = dep + 1 := IntWalk.i64_in _ (by omega)
  have HKQ : Hd ((call (⟨sp, sh, mk, dp, t, sn⟩ : SM) (⟨a, dep + 1, (⟨regAt r.l kb, 0, 0, 0⟩ : R4s).l, [], 0, 0, false, false, false, 0, false, 0⟩ : SF)).2.kind = 3) := ⟨hkq⟩
  clear hkq
  have HCALL := Hd.mk hcall
  have HPRE := Hd.mk hpre
  have HQ0 : Hd (innerS call (⟨sp, sh, mk, dp, t, sn⟩ : SM) (⟨f, dep, r.l, dfs, ki, va, false, df, pg, pa, rc, ou⟩ : SF) at_ ⟨4, a, kb⟩ = innerR (⟨f, dep, r.l, dfs, ki, va, false, df, pg, pa, rc, ou⟩ : SF) (call (⟨sp, sh, mk, dp, t, sn⟩ : SM) (⟨a, dep + 1, (⟨regAt r.l kb, 0, 0, 0⟩ : R4s).l, [], 0, 0, false, false, false, 0, false, 0⟩ : SF)) at_) := ⟨rfl⟩
  clear hcall hpre
  have hget : #[Value.int .i64 f, .int .i64 dep, .int .i64 (r.a), .int .i64 (r.b), .int .i64 (r.c), .int .i64 (r.d), .slice A3 n3 c3, .int .i64 ki, .int .i64 va, .bool false, .bool df, .bool pg, .int .i64 pa, .bool rc, .int .i64 ou][2 + kb]? = some (.int .i64 (regAt r.l kb)) := fr_get (by omega)
  go_enter Try.func132, Try.ntmps132
  go_wp2_with fail
  refine (HCALL.out (pts (w.heap.size + 1 + 1 + 1 + 1) (.cells #[Value.int .i64 0, .int .i64 0, .int .i64 0, .int .i64 0, .int .i64 0, .int .i64 0, .slice none 0 0, .int .i64 0, .int .i64 0, .bool false, .bool false, .bool false, .int .i64 0, .bool false, .int .i64 0] 123 (0, 0)) * (pts (w.heap.size + 1 + 1 + 1) (.cells #[Value.slice none 0 0, .int .i64 0, .bool false, .int .i64 0, .int .i64 0, .int .i64 0, .slice none 0 0, .slice none 0 0] 121 (0, 0)) * (pts (w.heap.size + 1 + 1) (.cells #[.int .i64 4, .int .i64 a, .int .i64 (kb : Int)] 141 (0, 0)) * (pts (w.heap.size + 1) (.cells #[Value.int .i64 f, .int .i64 dep, .int .i64 (r.a), .int .i64 (r.b), .int .i64 (r.c), .int .i64 (r.d), .slice A3 n3 c3, .int .i64 (ki), .int .i64 (va), .bool false, .bool df, .bool pg, .int .i64 pa, .bool rc, .int .i64 ou] 123 (0, 0)) * (pts w.heap.size (.cells #[Value.slice A n c0, .int .i64 fuel, .bool sp, .int .i64 sh, .int .i64 (mk : Int), .int .i64 dp, .slice A1 t.length c1, .slice A2 sn.length c2] 121 (0, 0)) * S))))) _ (.slice A1 t.length c1) (.slice A2 sn.length c2) (⟨sp, sh, mk, dp, t, sn⟩ : SM) (⟨a, dep + 1, (⟨regAt r.l kb, 0, 0, 0⟩ : R4s).l, [], 0, 0, false, false, false, 0, false, 0⟩ : SF) (⟨regAt r.l kb, 0, 0, 0⟩ : R4s) inferInstance inferInstance (SepI.cast (S := _) inferInstance (by ac_rfl)) rfl rfl rfl HPRE.out).mono ?_
  rintro e w4 ⟨vt4, vs4, vd4, r', rfl, hr', HP⟩
  obtain ⟨q, hq⟩ : ∃ q, call (⟨sp, sh, mk, dp, t, sn⟩ : SM) (⟨a, dep + 1, (⟨regAt r.l kb, 0, 0, 0⟩ : R4s).l, [], 0, 0, false, false, false, 0, false, 0⟩ : SF) = q := ⟨_, rfl⟩
  rw [hq] at hr' HP ⊢
  have HQ1 : Hd (innerS call (⟨sp, sh, mk, dp, t, sn⟩ : SM) (⟨f, dep, r.l, dfs, ki, va, false, df, pg, pa, rc, ou⟩ : SF) at_ ⟨4, a, kb⟩ = innerR (⟨f, dep, r.l, dfs, ki, va, false, df, pg, pa, rc, ou⟩ : SF) q at_) := ⟨by rw [HQ0.out, hq]⟩
  have hkk := HKQ.out
  rw [hq] at hkk
  clear hq HQ0 HKQ
  obtain ⟨⟨sp', sh', mk', dp', t', sn'⟩, ⟨f', dep', rg', dfs', ki', va', lv', df', pg', pa', rc', ou'⟩⟩ := q
  simp only at hr' HP hkk
  subst hr'
  have HKK := Hd.mk hkk
  clear hkk
  have HS4 := HP.sep
  have HE4 := HP.ext
  clear HP HCALL HPRE hget
  obtain ⟨A4, c4, rfl, hc4, hc4'⟩ := Row.form HS4
  obtain ⟨A5, c5, rfl, hc5, hc5'⟩ := Row.form HS4.right
  obtain ⟨A6, c6, rfl, hc6, hc6'⟩ := Row.form HS4.right.right
  clear hc4 hc4' hc5 hc5' hc6 hc6'
  simp only []
  rename_i hK
  refine hK _ _ ?_
  refine ev_val rfl _ rfl ?_
  refine ev_val rfl _ rfl ?_
  refine ev_val rfl _ rfl ?_
  refine ev_run (w1 := w4.alloc (.cells #[Value.int .i64 0, .int .i64 0, .int .i64 0, .int .i64 0, .int .i64 0, .int .i64 0, .slice none 0 0, .int .i64 0, .int .i64 0, .bool false, .bool false, .bool false, .int .i64 0, .bool false, .int .i64 0] 123 (0, 0))) rfl (.pointer (some ⟨w4.heap.size, 0, none⟩)) (by go_simp) ?_
  refine ev_store rfl 121 _ _ rfl (w.heap.size) #[Value.slice A n c0, .int .i64 fuel, .bool sp', .int .i64 sh', .int .i64 (mk' : Int), .int .i64 dp', .slice A4 t'.length c4, .slice A5 sn'.length c5] rfl rfl info_sm (by rfl) (by simp [Value.oneCell']) ?_
  intro w5 HS5 HE5
  refine ev_store rfl 123 _ _ rfl w4.heap.size #[Value.int .i64 f', .int .i64 dep', .int .i64 r'.a, .int .i64 r'.b, .int .i64 r'.c, .int .i64 r'.d, .slice A6 dfs'.length c6, .int .i64 ki', .int .i64 va', .bool lv', .bool df', .bool pg', .int .i64 pa', .bool rc', .int .i64 ou'] rfl rfl info_sf (by rfl) (by simp [Value.oneCell']) ?_
  intro w6 HS6 HE6
  obtain rfl := HKK.out
  have HQ : Hd (innerS call (⟨sp, sh, mk, dp, t, sn⟩ : SM) (⟨f, dep, r.l, dfs, ki, va, false, df, pg, pa, rc, ou⟩ : SF) at_ ⟨4, a, kb⟩ = ((⟨sp', sh', mk', dp', t', sn'⟩ : SM), (⟨f, dep, r.l, dfs, 3, va, lv', df, pg, pa, rc, ou⟩ : SF), -1)) := ⟨by rw [HQ1.out]; rfl⟩
  go_wp2
  refine wp_region_T 4 (by kernel_rfl) (by kernel_rfl) (fun w' => w'.cell? ⟨w.heap.size, 0, none⟩ = some (.slice A n c0) ∧ w'.cell? ⟨w.heap.size, 1, none⟩ = some (.int .i64 fuel) ∧ w'.cell? ⟨w.heap.size, 2, none⟩ = some (.bool sp') ∧ w'.cell? ⟨w.heap.size, 3, none⟩ = some (.int .i64 sh') ∧ w'.cell? ⟨w.heap.size, 4, none⟩ = some (.int .i64 (mk' : Int)) ∧ w'.cell? ⟨w.heap.size, 5, none⟩ = some (.int .i64 dp') ∧ w'.cell? ⟨w.heap.size, 6, none⟩ = some (.slice A4 t'.length c4) ∧ w'.cell? ⟨w.heap.size, 7, none⟩ = some (.slice A5 sn'.length c5) ∧ w'.cell? ⟨w.heap.size + 1, 0, none⟩ = some (.int .i64 f) ∧ w'.cell? ⟨w.heap.size + 1, 1, none⟩ = some (.int .i64 dep) ∧ w'.cell? ⟨w.heap.size + 1, 2, none⟩ = some (.int .i64 (r.a)) ∧ w'.cell? ⟨w.heap.size + 1, 3, none⟩ = some (.int .i64 (r.b)) ∧ w'.cell? ⟨w.heap.size + 1, 4, none⟩ = some (.int .i64 (r.c)) ∧ w'.cell? ⟨w.heap.size + 1, 5, none⟩ = some (.int .i64 (r.d)) ∧ w'.cell? ⟨w.heap.size + 1, 6, none⟩ = some (.slice A3 n3 c3) ∧ w'.cell? ⟨w.heap.size + 1, 7, none⟩ = some (.int .i64 (3)) ∧ w'.cell? ⟨w.heap.size + 1, 8, none⟩ = some (.int .i64 (va)) ∧ w'.cell? ⟨w.heap.size + 1, 9, none⟩ = some (.bool lv') ∧ w'.cell? ⟨w.heap.size + 1, 10, none⟩ = some (.bool df) ∧ w'.cell? ⟨w.heap.size + 1, 11, none⟩ = some (.bool pg) ∧ w'.cell? ⟨w.heap.size + 1, 12, none⟩ = some (.int .i64 pa) ∧ w'.cell? ⟨w.heap.size + 1, 13, none⟩ = some (.bool rc) ∧ w'.cell? ⟨w.heap.size + 1, 14, none⟩ = some (.int .i64 ou)) ⟨cb, cb, cb, cb, cb, cb, cb, cb, cb, cb, cb, cb, cb, cb, cb, cb, cb, cb, cb, cb, cb, cb, cb⟩ (fun hHeld => ?_)
  refine wpAnyT_takeL (i := 0) (v := ?_) rfl (by kernel_rfl) (by kernel_rfl) (by kernel_rfl) (by kernel_rfl) (by kernel_rfl) (fun _ _ _ h => h) (Or.inl ⟨by rfl, ?_⟩) (by assumption) ?_
  rotate_left
  · (intro w hSw; (try dsimp only at hSw); go_simp; try with_reducible rfl)
  try simp only [Act.put, List.setIfInBounds_toArray, List.set_cons_zero, List.set_cons_succ]
  refine wpAnyT_takeL (i := 1) (v := ?_) rfl (by kernel_rfl) (by kernel_rfl) (by kernel_rfl) (by kernel_rfl) (by kernel_rfl) (fun _ _ _ h => h) (Or.inl ⟨by rfl, ?_⟩) (by assumption) ?_
  rotate_left
  · (intro w hSw; (try dsimp only at hSw); go_simp; try with_reducible rfl)
  try simp only [Act.put, List.setIfInBounds_toArray, List.set_cons_zero, List.set_cons_succ]
  refine wpAnyT_one (i := 2) (by kernel_rfl) rfl (by kernel_rfl) (fun KK hKK => ?_)
  refine st_list rfl (ev_store rfl 121 _ _ rfl (w.heap.size + 1 + 1 + 1) #[Value.slice A n c0, .int .i64 fuel, .bool sp', .int .i64 sh', .int .i64 (mk' : Int), .int .i64 dp', .slice A4 t'.length c4, .slice A5 sn'.length c5] rfl rfl info_sm (by rfl) (by simp [Value.oneCell']) ?_)
  intro w8 HS8 HE8
  refine ⟨rfl, ?_⟩
  refine hKK.out _ _ ⟨cb, cb, cb, cb, cb, cb, cb, cb, cb, cb, cb, cb, cb, cb, cb, cb, cb, cb, cb, cb, cb, cb, cb⟩ (fun hHeld => ?_)
  clear hKK KK
  try simp only [Act.put, List.setIfInBounds_toArray, List.set_cons_zero, List.set_cons_succ]
  refine wpAnyT_one (i := 3) (by kernel_rfl) rfl (by kernel_rfl) (fun KK hKK => ?_)
  refine st_list rfl (ev_store rfl 123 _ _ rfl (w.heap.size + 1 + 1 + 1 + 1) #[Value.int .i64 f, .int .i64 dep, .int .i64 (r.a), .int .i64 (r.b), .int .i64 (r.c), .int .i64 (r.d), .slice A3 n3 c3, .int .i64 (3), .int .i64 (va), .bool lv', .bool df, .bool pg, .int .i64 pa, .bool rc, .int .i64 ou] rfl rfl info_sf (by rfl) (by simp [Value.oneCell']) ?_)
  intro w9 HS9 HE9
  refine ⟨rfl, ?_⟩
  refine hKK.out _ _ ⟨cb, cb, cb, cb, cb, cb, cb, cb, cb, cb, cb, cb, cb, cb, cb, cb, cb, cb, cb, cb, cb, cb, cb⟩ (fun hHeld => ?_)
  clear hKK KK
  try simp only [Act.put, List.setIfInBounds_toArray, List.set_cons_zero, List.set_cons_succ]
  refine wpAnyT_done (by kernel_rfl) ?_
  go_wp2
  refine bodyPost_ret (v := .tuple #[mV (.slice A n c0) (.slice A4 t'.length c4) (.slice A5 sn'.length c5) fuel (⟨sp', sh', mk', dp', t', sn'⟩ : SM), fV (⟨f, dep, r.l, dfs, 3, va, lv', df, pg, pa, rc, ou⟩ : SF) r (.slice A3 n3 c3), .int .i64 (-1)]) (by simp [results, Try.results132, go_sem]) rfl ?_
  exact InnerP.of (m' := (⟨sp', sh', mk', dp', t', sn'⟩ : SM)) (c' := (⟨f, dep, r.l, dfs, 3, va, lv', df, pg, pa, rc, ou⟩ : SF)) (at_ := -1) (r := r) (vt := .slice A4 t'.length c4) (vs := .slice A5 sn'.length c5) HQ.out rfl (Post.mk' (Ent.sep (S := _) (T := Row 75 3 (.slice A4 t'.length c4) t'.length (cEvs t') * (Row 112 2 (.slice A5 sn'.length c5) sn'.length (cPr sn') * S)) inferInstance inferInstance) inferInstance)
set_option maxRecDepth 100000 in
set_option maxHeartbeats 8000000 in
theorem spec_l2Inner3t (S : HP) (w : World) (A : Option Addr) (n c0 : Nat) (bs : List Bd) [rd : Rd S A (cBds bs)] [bd : Bodies S bs] (vt vs : Value) (A3 : Option Addr) (n3 c3 : Nat) (m : SM) (c : SF) (r : R4s) (hr : c.regs = r.l) [H0 : SepI w (Row 75 3 (vt) m.trace.length (cEvs m.trace) * (Row 112 2 (vs) m.seen.length (cPr m.seen) * S))] (fuel at_ : Int) (hat : 0 ≤ at_ ∧ at_ ≤ 1048576) (Pre : SM → SF → Prop) (call : CallS) (a : Int) (kb : Nat) (hkb : kb < 4) (hdep : 0 ≤ c.depth ∧ c.depth ≤ 1048576) (hcall : CallC A n c0 bs fuel (c.depth + 1) Pre call) (hpre : Pre m (freshIn c ⟨4, a, kb⟩)) (hkq : (call m (freshIn c ⟨4, a, kb⟩)).2.kind = 3) (hlv : c.lv = true) :
    Calls Try.prog 132 #[mV (.slice A n c0) vt vs fuel m, fV c r (.slice A3 n3 c3), .int .i64 at_, .agg #[.int .i64 4, .int .i64 a, .int .i64 (kb : Int)]] w (InnerP S (.slice A n c0) (.slice A3 n3 c3) fuel (innerS call m c at_ ⟨4, a, kb⟩) w) := by
  obtain ⟨sp, sh, mk, dp, t, sn⟩ := m
  obtain ⟨f, dep, rg, dfs, ki, va, lv, df, pg, pa, rc, ou⟩ := c
  simp only at hr hdep hcall hlv
  subst hr
  subst hlv
  simp only at H0
  obtain ⟨A1, c1, rfl, hc1, hc1'⟩ := Row.form H0
  obtain ⟨A2, c2, rfl, hc2, hc2'⟩ := Row.form H0.right
  have HC1 := Hd.mk hc1
  have HC2 := Hd.mk hc2
  clear hc1 hc1' hc2 hc2'
  have hbI : (kb : Int) < 4 := by omega
  have hw : IntKind.i64.wrap (at_ + 1) = at_ + 1 := IntWalk.i64_in _ (by omega)
  have hwd : IntKind.i64.wrap (dep + 1) = dep + 1 := IntWalk.i64_in _ (by omega)
  have HKQ : Hd ((call (⟨sp, sh, mk, dp, t, sn⟩ : SM) (⟨a, dep + 1, (⟨regAt r.l kb, 0, 0, 0⟩ : R4s).l, [], 0, 0, false, false, false, 0, false, 0⟩ : SF)).2.kind = 3) := ⟨hkq⟩
  clear hkq
  have HCALL := Hd.mk hcall
  have HPRE := Hd.mk hpre
  have HQ0 : Hd (innerS call (⟨sp, sh, mk, dp, t, sn⟩ : SM) (⟨f, dep, r.l, dfs, ki, va, true, df, pg, pa, rc, ou⟩ : SF) at_ ⟨4, a, kb⟩ = innerR (⟨f, dep, r.l, dfs, ki, va, true, df, pg, pa, rc, ou⟩ : SF) (call (⟨sp, sh, mk, dp, t, sn⟩ : SM) (⟨a, dep + 1, (⟨regAt r.l kb, 0, 0, 0⟩ : R4s).l, [], 0, 0, false, false, false, 0, false, 0⟩ : SF)) at_) := ⟨rfl⟩
  clear hcall hpre
  have hget : #[Value.int .i64 f, .int .i64 dep, .int .i64 (r.a), .int .i64 (r.b), .int .i64 (r.c), .int .i64 (r.d), .slice A3 n3 c3, .int .i64 ki, .int .i64 va, .bool true, .bool df, .bool pg, .int .i64 pa, .bool rc, .int .i64 ou][2 + kb]? = some (.int .i64 (regAt r.l kb)) := fr_get (by omega)
  go_enter Try.func132, Try.ntmps132
  go_wp2_with fail
  refine (HCALL.out (pts (w.heap.size + 1 + 1 + 1 + 1) (.cells #[Value.int .i64 0, .int .i64 0, .int .i64 0, .int .i64 0, .int .i64 0, .int .i64 0, .slice none 0 0, .int .i64 0, .int .i64 0, .bool false, .bool false, .bool false, .int .i64 0, .bool false, .int .i64 0] 123 (0, 0)) * (pts (w.heap.size + 1 + 1 + 1) (.cells #[Value.slice none 0 0, .int .i64 0, .bool false, .int .i64 0, .int .i64 0, .int .i64 0, .slice none 0 0, .slice none 0 0] 121 (0, 0)) * (pts (w.heap.size + 1 + 1) (.cells #[.int .i64 4, .int .i64 a, .int .i64 (kb : Int)] 141 (0, 0)) * (pts (w.heap.size + 1) (.cells #[Value.int .i64 f, .int .i64 dep, .int .i64 (r.a), .int .i64 (r.b), .int .i64 (r.c), .int .i64 (r.d), .slice A3 n3 c3, .int .i64 (ki), .int .i64 (va), .bool true, .bool df, .bool pg, .int .i64 pa, .bool rc, .int .i64 ou] 123 (0, 0)) * (pts w.heap.size (.cells #[Value.slice A n c0, .int .i64 fuel, .bool sp, .int .i64 sh, .int .i64 (mk : Int), .int .i64 dp, .slice A1 t.length c1, .slice A2 sn.length c2] 121 (0, 0)) * S))))) _ (.slice A1 t.length c1) (.slice A2 sn.length c2) (⟨sp, sh, mk, dp, t, sn⟩ : SM) (⟨a, dep + 1, (⟨regAt r.l kb, 0, 0, 0⟩ : R4s).l, [], 0, 0, false, false, false, 0, false, 0⟩ : SF) (⟨regAt r.l kb, 0, 0, 0⟩ : R4s) inferInstance inferInstance (SepI.cast (S := _) inferInstance (by ac_rfl)) rfl rfl rfl HPRE.out).mono ?_
  rintro e w4 ⟨vt4, vs4, vd4, r', rfl, hr', HP⟩
  obtain ⟨q, hq⟩ : ∃ q, call (⟨sp, sh, mk, dp, t, sn⟩ : SM) (⟨a, dep + 1, (⟨regAt r.l kb, 0, 0, 0⟩ : R4s).l, [], 0, 0, false, false, false, 0, false, 0⟩ : SF) = q := ⟨_, rfl⟩
  rw [hq] at hr' HP ⊢
  have HQ1 : Hd (innerS call (⟨sp, sh, mk, dp, t, sn⟩ : SM) (⟨f, dep, r.l, dfs, ki, va, true, df, pg, pa, rc, ou⟩ : SF) at_ ⟨4, a, kb⟩ = innerR (⟨f, dep, r.l, dfs, ki, va, true, df, pg, pa, rc, ou⟩ : SF) q at_) := ⟨by rw [HQ0.out, hq]⟩
  have hkk := HKQ.out
  rw [hq] at hkk
  clear hq HQ0 HKQ
  obtain ⟨⟨sp', sh', mk', dp', t', sn'⟩, ⟨f', dep', rg', dfs', ki', va', lv', df', pg', pa', rc', ou'⟩⟩ := q
  simp only at hr' HP hkk
  subst hr'
  have HKK := Hd.mk hkk
  clear hkk
  have HS4 := HP.sep
  have HE4 := HP.ext
  clear HP HCALL HPRE hget
  obtain ⟨A4, c4, rfl, hc4, hc4'⟩ := Row.form HS4
  obtain ⟨A5, c5, rfl, hc5, hc5'⟩ := Row.form HS4.right
  obtain ⟨A6, c6, rfl, hc6, hc6'⟩ := Row.form HS4.right.right
  clear hc4 hc4' hc5 hc5' hc6 hc6'
  simp only []
  rename_i hK
  refine hK _ _ ?_
  refine ev_val rfl _ rfl ?_
  refine ev_val rfl _ rfl ?_
  refine ev_val rfl _ rfl ?_
  refine ev_run (w1 := w4.alloc (.cells #[Value.int .i64 0, .int .i64 0, .int .i64 0, .int .i64 0, .int .i64 0, .int .i64 0, .slice none 0 0, .int .i64 0, .int .i64 0, .bool false, .bool false, .bool false, .int .i64 0, .bool false, .int .i64 0] 123 (0, 0))) rfl (.pointer (some ⟨w4.heap.size, 0, none⟩)) (by go_simp) ?_
  refine ev_store rfl 121 _ _ rfl (w.heap.size) #[Value.slice A n c0, .int .i64 fuel, .bool sp', .int .i64 sh', .int .i64 (mk' : Int), .int .i64 dp', .slice A4 t'.length c4, .slice A5 sn'.length c5] rfl rfl info_sm (by rfl) (by simp [Value.oneCell']) ?_
  intro w5 HS5 HE5
  refine ev_store rfl 123 _ _ rfl w4.heap.size #[Value.int .i64 f', .int .i64 dep', .int .i64 r'.a, .int .i64 r'.b, .int .i64 r'.c, .int .i64 r'.d, .slice A6 dfs'.length c6, .int .i64 ki', .int .i64 va', .bool lv', .bool df', .bool pg', .int .i64 pa', .bool rc', .int .i64 ou'] rfl rfl info_sf (by rfl) (by simp [Value.oneCell']) ?_
  intro w6 HS6 HE6
  obtain rfl := HKK.out
  have HQ : Hd (innerS call (⟨sp, sh, mk, dp, t, sn⟩ : SM) (⟨f, dep, r.l, dfs, ki, va, true, df, pg, pa, rc, ou⟩ : SF) at_ ⟨4, a, kb⟩ = ((⟨sp', sh', mk', dp', t', sn'⟩ : SM), (⟨f, dep, r.l, dfs, 3, va, true, df, pg, pa, rc, ou⟩ : SF), -1)) := ⟨by rw [HQ1.out]; rfl⟩
  go_wp2
  refine wp_region_T 4 (by kernel_rfl) (by kernel_rfl) (fun w' => w'.cell? ⟨w.heap.size, 0, none⟩ = some (.slice A n c0) ∧ w'.cell? ⟨w.heap.size, 1, none⟩ = some (.int .i64 fuel) ∧ w'.cell? ⟨w.heap.size, 2, none⟩ = some (.bool sp') ∧ w'.cell? ⟨w.heap.size, 3, none⟩ = some (.int .i64 sh') ∧ w'.cell? ⟨w.heap.size, 4, none⟩ = some (.int .i64 (mk' : Int)) ∧ w'.cell? ⟨w.heap.size, 5, none⟩ = some (.int .i64 dp') ∧ w'.cell? ⟨w.heap.size, 6, none⟩ = some (.slice A4 t'.length c4) ∧ w'.cell? ⟨w.heap.size, 7, none⟩ = some (.slice A5 sn'.length c5) ∧ w'.cell? ⟨w.heap.size + 1, 0, none⟩ = some (.int .i64 f) ∧ w'.cell? ⟨w.heap.size + 1, 1, none⟩ = some (.int .i64 dep) ∧ w'.cell? ⟨w.heap.size + 1, 2, none⟩ = some (.int .i64 (r.a)) ∧ w'.cell? ⟨w.heap.size + 1, 3, none⟩ = some (.int .i64 (r.b)) ∧ w'.cell? ⟨w.heap.size + 1, 4, none⟩ = some (.int .i64 (r.c)) ∧ w'.cell? ⟨w.heap.size + 1, 5, none⟩ = some (.int .i64 (r.d)) ∧ w'.cell? ⟨w.heap.size + 1, 6, none⟩ = some (.slice A3 n3 c3) ∧ w'.cell? ⟨w.heap.size + 1, 7, none⟩ = some (.int .i64 (3)) ∧ w'.cell? ⟨w.heap.size + 1, 8, none⟩ = some (.int .i64 (va)) ∧ w'.cell? ⟨w.heap.size + 1, 9, none⟩ = some (.bool true) ∧ w'.cell? ⟨w.heap.size + 1, 10, none⟩ = some (.bool df) ∧ w'.cell? ⟨w.heap.size + 1, 11, none⟩ = some (.bool pg) ∧ w'.cell? ⟨w.heap.size + 1, 12, none⟩ = some (.int .i64 pa) ∧ w'.cell? ⟨w.heap.size + 1, 13, none⟩ = some (.bool rc) ∧ w'.cell? ⟨w.heap.size + 1, 14, none⟩ = some (.int .i64 ou)) ⟨cb, cb, cb, cb, cb, cb, cb, cb, cb, cb, cb, cb, cb, cb, cb, cb, cb, cb, cb, cb, cb, cb, cb⟩ (fun hHeld => ?_)
  refine wpAnyT_takeL (i := 0) (v := ?_) rfl (by kernel_rfl) (by kernel_rfl) (by kernel_rfl) (by kernel_rfl) (by kernel_rfl) (fun _ _ _ h => h) (Or.inl ⟨by rfl, ?_⟩) (by assumption) ?_
  rotate_left
  · (intro w hSw; (try dsimp only at hSw); go_simp; try with_reducible rfl)
  try simp only [Act.put, List.setIfInBounds_toArray, List.set_cons_zero, List.set_cons_succ]
  refine wpAnyT_takeL (i := 1) (v := ?_) rfl (by kernel_rfl) (by kernel_rfl) (by kernel_rfl) (by kernel_rfl) (by kernel_rfl) (fun _ _ _ h => h) (Or.inl ⟨by rfl, ?_⟩) (by assumption) ?_
  rotate_left
  · (intro w hSw; (try dsimp only at hSw); go_simp; try with_reducible rfl)
  try simp only [Act.put, List.setIfInBounds_toArray, List.set_cons_zero, List.set_cons_succ]
  refine wpAnyT_one (i := 2) (by kernel_rfl) rfl (by kernel_rfl) (fun KK hKK => ?_)
  refine st_list rfl (ev_store rfl 121 _ _ rfl (w.heap.size + 1 + 1 + 1) #[Value.slice A n c0, .int .i64 fuel, .bool sp', .int .i64 sh', .int .i64 (mk' : Int), .int .i64 dp', .slice A4 t'.length c4, .slice A5 sn'.length c5] rfl rfl info_sm (by rfl) (by simp [Value.oneCell']) ?_)
  intro w8 HS8 HE8
  refine ⟨rfl, ?_⟩
  refine hKK.out _ _ ⟨cb, cb, cb, cb, cb, cb, cb, cb, cb, cb, cb, cb, cb, cb, cb, cb, cb, cb, cb, cb, cb, cb, cb⟩ (fun hHeld => ?_)
  clear hKK KK
  try simp only [Act.put, List.setIfInBounds_toArray, List.set_cons_zero, List.set_cons_succ]
  refine wpAnyT_one (i := 3) (by kernel_rfl) rfl (by kernel_rfl) (fun KK hKK => ?_)
  refine st_list rfl (ev_store rfl 123 _ _ rfl (w.heap.size + 1 + 1 + 1 + 1) #[Value.int .i64 f, .int .i64 dep, .int .i64 (r.a), .int .i64 (r.b), .int .i64 (r.c), .int .i64 (r.d), .slice A3 n3 c3, .int .i64 (3), .int .i64 (va), .bool true, .bool df, .bool pg, .int .i64 pa, .bool rc, .int .i64 ou] rfl rfl info_sf (by rfl) (by simp [Value.oneCell']) ?_)
  intro w9 HS9 HE9
  refine ⟨rfl, ?_⟩
  refine hKK.out _ _ ⟨cb, cb, cb, cb, cb, cb, cb, cb, cb, cb, cb, cb, cb, cb, cb, cb, cb, cb, cb, cb, cb, cb, cb⟩ (fun hHeld => ?_)
  clear hKK KK
  try simp only [Act.put, List.setIfInBounds_toArray, List.set_cons_zero, List.set_cons_succ]
  refine wpAnyT_done (by kernel_rfl) ?_
  go_wp2
  refine bodyPost_ret (v := .tuple #[mV (.slice A n c0) (.slice A4 t'.length c4) (.slice A5 sn'.length c5) fuel (⟨sp', sh', mk', dp', t', sn'⟩ : SM), fV (⟨f, dep, r.l, dfs, 3, va, true, df, pg, pa, rc, ou⟩ : SF) r (.slice A3 n3 c3), .int .i64 (-1)]) (by simp [results, Try.results132, go_sem]) rfl ?_
  exact InnerP.of (m' := (⟨sp', sh', mk', dp', t', sn'⟩ : SM)) (c' := (⟨f, dep, r.l, dfs, 3, va, true, df, pg, pa, rc, ou⟩ : SF)) (at_ := -1) (r := r) (vt := .slice A4 t'.length c4) (vs := .slice A5 sn'.length c5) HQ.out rfl (Post.mk' (Ent.sep (S := _) (T := Row 75 3 (.slice A4 t'.length c4) t'.length (cEvs t') * (Row 112 2 (.slice A5 sn'.length c5) sn'.length (cPr sn') * S)) inferInstance inferInstance) inferInstance)
set_option maxRecDepth 100000 in
set_option maxHeartbeats 8000000 in
theorem spec_l2Inner0f (S : HP) (w : World) (A : Option Addr) (n c0 : Nat) (bs : List Bd) [rd : Rd S A (cBds bs)] [bd : Bodies S bs] (vt vs : Value) (A3 : Option Addr) (n3 c3 : Nat) (m : SM) (c : SF) (r : R4s) (hr : c.regs = r.l) [H0 : SepI w (Row 75 3 (vt) m.trace.length (cEvs m.trace) * (Row 112 2 (vs) m.seen.length (cPr m.seen) * S))] (fuel at_ : Int) (hat : 0 ≤ at_ ∧ at_ ≤ 1048576) (Pre : SM → SF → Prop) (call : CallS) (a : Int) (kb : Nat) (hkb : kb < 4) (hdep : 0 ≤ c.depth ∧ c.depth ≤ 1048576) (hcall : CallC A n c0 bs fuel (c.depth + 1) Pre call) (hpre : Pre m (freshIn c ⟨4, a, kb⟩)) (hkq : (call m (freshIn c ⟨4, a, kb⟩)).2.kind ≠ 1 ∧ (call m (freshIn c ⟨4, a, kb⟩)).2.kind ≠ 2 ∧ (call m (freshIn c ⟨4, a, kb⟩)).2.kind ≠ 3) (hlv : c.lv = false) :
    Calls Try.prog 132 #[mV (.slice A n c0) vt vs fuel m, fV c r (.slice A3 n3 c3), .int .i64 at_, .agg #[.int .i64 4, .int .i64 a, .int .i64 (kb : Int)]] w (InnerP S (.slice A n c0) (.slice A3 n3 c3) fuel (innerS call m c at_ ⟨4, a, kb⟩) w) := by
  obtain ⟨sp, sh, mk, dp, t, sn⟩ := m
  obtain ⟨f, dep, rg, dfs, ki, va, lv, df, pg, pa, rc, ou⟩ := c
  simp only at hr hdep hcall hlv
  subst hr
  subst hlv
  simp only at H0
  obtain ⟨A1, c1, rfl, hc1, hc1'⟩ := Row.form H0
  obtain ⟨A2, c2, rfl, hc2, hc2'⟩ := Row.form H0.right
  have HC1 := Hd.mk hc1
  have HC2 := Hd.mk hc2
  clear hc1 hc1' hc2 hc2'
  have hbI : (kb : Int) < 4 := by omega
  have hw : IntKind.i64.wrap (at_ + 1) = at_ + 1 := IntWalk.i64_in _ (by omega)
  have hwd : IntKind.i64.wrap (dep + 1) = dep + 1 := IntWalk.i64_in _ (by omega)
  have HKQ : Hd ((call (⟨sp, sh, mk, dp, t, sn⟩ : SM) (⟨a, dep + 1, (⟨regAt r.l kb, 0, 0, 0⟩ : R4s).l, [], 0, 0, false, false, false, 0, false, 0⟩ : SF)).2.kind ≠ 1 ∧ (call (⟨sp, sh, mk, dp, t, sn⟩ : SM) (⟨a, dep + 1, (⟨regAt r.l kb, 0, 0, 0⟩ : R4s).l, [], 0, 0, false, false, false, 0, false, 0⟩ : SF)).2.kind ≠ 2 ∧ (call (⟨sp, sh, mk, dp, t, sn⟩ : SM) (⟨a, dep + 1, (⟨regAt r.l kb, 0, 0, 0⟩ : R4s).l, [], 0, 0, false, false, false, 0, false, 0⟩ : SF)).2.kind ≠ 3) := ⟨hkq⟩
  clear hkq
  have HCALL := Hd.mk hcall
  have HPRE := Hd.mk hpre
  have HQ0 : Hd (innerS call (⟨sp, sh, mk, dp, t, sn⟩ : SM) (⟨f, dep, r.l, dfs, ki, va, false, df, pg, pa, rc, ou⟩ : SF) at_ ⟨4, a, kb⟩ = innerR (⟨f, dep, r.l, dfs, ki, va, false, df, pg, pa, rc, ou⟩ : SF) (call (⟨sp, sh, mk, dp, t, sn⟩ : SM) (⟨a, dep + 1, (⟨regAt r.l kb, 0, 0, 0⟩ : R4s).l, [], 0, 0, false, false, false, 0, false, 0⟩ : SF)) at_) := ⟨rfl⟩
  clear hcall hpre
  have hget : #[Value.int .i64 f, .int .i64 dep, .int .i64 (r.a), .int .i64 (r.b), .int .i64 (r.c), .int .i64 (r.d), .slice A3 n3 c3, .int .i64 ki, .int .i64 va, .bool false, .bool df, .bool pg, .int .i64 pa, .bool rc, .int .i64 ou][2 + kb]? = some (.int .i64 (regAt r.l kb)) := fr_get (by omega)
  go_enter Try.func132, Try.ntmps132
  go_wp2_with fail
  refine (HCALL.out (pts (w.heap.size + 1 + 1 + 1 + 1) (.cells #[Value.int .i64 0, .int .i64 0, .int .i64 0, .int .i64 0, .int .i64 0, .int .i64 0, .slice none 0 0, .int .i64 0, .int .i64 0, .bool false, .bool false, .bool false, .int .i64 0, .bool false, .int .i64 0] 123 (0, 0)) * (pts (w.heap.size + 1 + 1 + 1) (.cells #[Value.slice none 0 0, .int .i64 0, .bool false, .int .i64 0, .int .i64 0, .int .i64 0, .slice none 0 0, .slice none 0 0] 121 (0, 0)) * (pts (w.heap.size + 1 + 1) (.cells #[.int .i64 4, .int .i64 a, .int .i64 (kb : Int)] 141 (0, 0)) * (pts (w.heap.size + 1) (.cells #[Value.int .i64 f, .int .i64 dep, .int .i64 (r.a), .int .i64 (r.b), .int .i64 (r.c), .int .i64 (r.d), .slice A3 n3 c3, .int .i64 (ki), .int .i64 (va), .bool false, .bool df, .bool pg, .int .i64 pa, .bool rc, .int .i64 ou] 123 (0, 0)) * (pts w.heap.size (.cells #[Value.slice A n c0, .int .i64 fuel, .bool sp, .int .i64 sh, .int .i64 (mk : Int), .int .i64 dp, .slice A1 t.length c1, .slice A2 sn.length c2] 121 (0, 0)) * S))))) _ (.slice A1 t.length c1) (.slice A2 sn.length c2) (⟨sp, sh, mk, dp, t, sn⟩ : SM) (⟨a, dep + 1, (⟨regAt r.l kb, 0, 0, 0⟩ : R4s).l, [], 0, 0, false, false, false, 0, false, 0⟩ : SF) (⟨regAt r.l kb, 0, 0, 0⟩ : R4s) inferInstance inferInstance (SepI.cast (S := _) inferInstance (by ac_rfl)) rfl rfl rfl HPRE.out).mono ?_
  rintro e w4 ⟨vt4, vs4, vd4, r', rfl, hr', HP⟩
  obtain ⟨q, hq⟩ : ∃ q, call (⟨sp, sh, mk, dp, t, sn⟩ : SM) (⟨a, dep + 1, (⟨regAt r.l kb, 0, 0, 0⟩ : R4s).l, [], 0, 0, false, false, false, 0, false, 0⟩ : SF) = q := ⟨_, rfl⟩
  rw [hq] at hr' HP ⊢
  have HQ1 : Hd (innerS call (⟨sp, sh, mk, dp, t, sn⟩ : SM) (⟨f, dep, r.l, dfs, ki, va, false, df, pg, pa, rc, ou⟩ : SF) at_ ⟨4, a, kb⟩ = innerR (⟨f, dep, r.l, dfs, ki, va, false, df, pg, pa, rc, ou⟩ : SF) q at_) := ⟨by rw [HQ0.out, hq]⟩
  have hkk := HKQ.out
  rw [hq] at hkk
  clear hq HQ0 HKQ
  obtain ⟨⟨sp', sh', mk', dp', t', sn'⟩, ⟨f', dep', rg', dfs', ki', va', lv', df', pg', pa', rc', ou'⟩⟩ := q
  simp only at hr' HP hkk
  subst hr'
  have HKK := Hd.mk hkk
  clear hkk
  have HS4 := HP.sep
  have HE4 := HP.ext
  clear HP HCALL HPRE hget
  obtain ⟨A4, c4, rfl, hc4, hc4'⟩ := Row.form HS4
  obtain ⟨A5, c5, rfl, hc5, hc5'⟩ := Row.form HS4.right
  obtain ⟨A6, c6, rfl, hc6, hc6'⟩ := Row.form HS4.right.right
  clear hc4 hc4' hc5 hc5' hc6 hc6'
  simp only []
  rename_i hK
  refine hK _ _ ?_
  refine ev_val rfl _ rfl ?_
  refine ev_val rfl _ rfl ?_
  refine ev_val rfl _ rfl ?_
  refine ev_run (w1 := w4.alloc (.cells #[Value.int .i64 0, .int .i64 0, .int .i64 0, .int .i64 0, .int .i64 0, .int .i64 0, .slice none 0 0, .int .i64 0, .int .i64 0, .bool false, .bool false, .bool false, .int .i64 0, .bool false, .int .i64 0] 123 (0, 0))) rfl (.pointer (some ⟨w4.heap.size, 0, none⟩)) (by go_simp) ?_
  refine ev_store rfl 121 _ _ rfl (w.heap.size) #[Value.slice A n c0, .int .i64 fuel, .bool sp', .int .i64 sh', .int .i64 (mk' : Int), .int .i64 dp', .slice A4 t'.length c4, .slice A5 sn'.length c5] rfl rfl info_sm (by rfl) (by simp [Value.oneCell']) ?_
  intro w5 HS5 HE5
  refine ev_store rfl 123 _ _ rfl w4.heap.size #[Value.int .i64 f', .int .i64 dep', .int .i64 r'.a, .int .i64 r'.b, .int .i64 r'.c, .int .i64 r'.d, .slice A6 dfs'.length c6, .int .i64 ki', .int .i64 va', .bool lv', .bool df', .bool pg', .int .i64 pa', .bool rc', .int .i64 ou'] rfl rfl info_sf (by rfl) (by simp [Value.oneCell']) ?_
  intro w6 HS6 HE6
  have hkk := HKK.out
  have k1 : (ki' == 1) = false := beq_eq_false_iff_ne.2 hkk.1
  have k2 : (ki' == 2) = false := beq_eq_false_iff_ne.2 hkk.2.1
  have k3 : (ki' == 3) = false := beq_eq_false_iff_ne.2 hkk.2.2
  have HN := Hd.mk hkk
  clear hkk
  have HQ : Hd (innerS call (⟨sp, sh, mk, dp, t, sn⟩ : SM) (⟨f, dep, r.l, dfs, ki, va, false, df, pg, pa, rc, ou⟩ : SF) at_ ⟨4, a, kb⟩ = ((⟨sp', sh', mk', dp', t', sn'⟩ : SM), (⟨f, dep, r.l, dfs, ki, va, lv', df, pg, pa, rc, ou⟩ : SF), -1)) := ⟨by rw [HQ1.out]; unfold innerR; simp only; rw [if_neg HN.out.1, if_neg HN.out.2.1, if_neg HN.out.2.2]; rfl⟩
  go_wp2
  refine wp_region_T 4 (by kernel_rfl) (by kernel_rfl) (fun w' => w'.cell? ⟨w.heap.size, 0, none⟩ = some (.slice A n c0) ∧ w'.cell? ⟨w.heap.size, 1, none⟩ = some (.int .i64 fuel) ∧ w'.cell? ⟨w.heap.size, 2, none⟩ = some (.bool sp') ∧ w'.cell? ⟨w.heap.size, 3, none⟩ = some (.int .i64 sh') ∧ w'.cell? ⟨w.heap.size, 4, none⟩ = some (.int .i64 (mk' : Int)) ∧ w'.cell? ⟨w.heap.size, 5, none⟩ = some (.int .i64 dp') ∧ w'.cell? ⟨w.heap.size, 6, none⟩ = some (.slice A4 t'.length c4) ∧ w'.cell? ⟨w.heap.size, 7, none⟩ = some (.slice A5 sn'.length c5) ∧ w'.cell? ⟨w.heap.size + 1, 0, none⟩ = some (.int .i64 f) ∧ w'.cell? ⟨w.heap.size + 1, 1, none⟩ = some (.int .i64 dep) ∧ w'.cell? ⟨w.heap.size + 1, 2, none⟩ = some (.int .i64 (r.a)) ∧ w'.cell? ⟨w.heap.size + 1, 3, none⟩ = some (.int .i64 (r.b)) ∧ w'.cell? ⟨w.heap.size + 1, 4, none⟩ = some (.int .i64 (r.c)) ∧ w'.cell? ⟨w.heap.size + 1, 5, none⟩ = some (.int .i64 (r.d)) ∧ w'.cell? ⟨w.heap.size + 1, 6, none⟩ = some (.slice A3 n3 c3) ∧ w'.cell? ⟨w.heap.size + 1, 7, none⟩ = some (.int .i64 (ki)) ∧ w'.cell? ⟨w.heap.size + 1, 8, none⟩ = some (.int .i64 (va)) ∧ w'.cell? ⟨w.heap.size + 1, 9, none⟩ = some (.bool lv') ∧ w'.cell? ⟨w.heap.size + 1, 10, none⟩ = some (.bool df) ∧ w'.cell? ⟨w.heap.size + 1, 11, none⟩ = some (.bool pg) ∧ w'.cell? ⟨w.heap.size + 1, 12, none⟩ = some (.int .i64 pa) ∧ w'.cell? ⟨w.heap.size + 1, 13, none⟩ = some (.bool rc) ∧ w'.cell? ⟨w.heap.size + 1, 14, none⟩ = some (.int .i64 ou)) ⟨cb, cb, cb, cb, cb, cb, cb, cb, cb, cb, cb, cb, cb, cb, cb, cb, cb, cb, cb, cb, cb, cb, cb⟩ (fun hHeld => ?_)
  refine wpAnyT_takeL (i := 0) (v := ?_) rfl (by kernel_rfl) (by kernel_rfl) (by kernel_rfl) (by kernel_rfl) (by kernel_rfl) (fun _ _ _ h => h) (Or.inl ⟨by rfl, ?_⟩) (by assumption) ?_
  rotate_left
  · (intro w hSw; (try dsimp only at hSw); go_simp; try with_reducible rfl)
  try simp only [Act.put, List.setIfInBounds_toArray, List.set_cons_zero, List.set_cons_succ]
  refine wpAnyT_takeL (i := 1) (v := ?_) rfl (by kernel_rfl) (by kernel_rfl) (by kernel_rfl) (by kernel_rfl) (by kernel_rfl) (fun _ _ _ h => h) (Or.inl ⟨by rfl, ?_⟩) (by assumption) ?_
  rotate_left
  · (intro w hSw; (try dsimp only at hSw); go_simp; try with_reducible rfl)
  try simp only [Act.put, List.setIfInBounds_toArray, List.set_cons_zero, List.set_cons_succ]
  refine wpAnyT_one (i := 2) (by kernel_rfl) rfl (by kernel_rfl) (fun KK hKK => ?_)
  refine st_list rfl (ev_store rfl 121 _ _ rfl (w.heap.size + 1 + 1 + 1) #[Value.slice A n c0, .int .i64 fuel, .bool sp', .int .i64 sh', .int .i64 (mk' : Int), .int .i64 dp', .slice A4 t'.length c4, .slice A5 sn'.length c5] rfl rfl info_sm (by rfl) (by simp [Value.oneCell']) ?_)
  intro w8 HS8 HE8
  refine ⟨rfl, ?_⟩
  refine hKK.out _ _ ⟨cb, cb, cb, cb, cb, cb, cb, cb, cb, cb, cb, cb, cb, cb, cb, cb, cb, cb, cb, cb, cb, cb, cb⟩ (fun hHeld => ?_)
  clear hKK KK
  try simp only [Act.put, List.setIfInBounds_toArray, List.set_cons_zero, List.set_cons_succ]
  refine wpAnyT_one (i := 3) (by kernel_rfl) rfl (by kernel_rfl) (fun KK hKK => ?_)
  refine st_list rfl (ev_store rfl 123 _ _ rfl (w.heap.size + 1 + 1 + 1 + 1) #[Value.int .i64 f, .int .i64 dep, .int .i64 (r.a), .int .i64 (r.b), .int .i64 (r.c), .int .i64 (r.d), .slice A3 n3 c3, .int .i64 (ki), .int .i64 (va), .bool lv', .bool df, .bool pg, .int .i64 pa, .bool rc, .int .i64 ou] rfl rfl info_sf (by rfl) (by simp [Value.oneCell']) ?_)
  intro w9 HS9 HE9
  refine ⟨rfl, ?_⟩
  refine hKK.out _ _ ⟨cb, cb, cb, cb, cb, cb, cb, cb, cb, cb, cb, cb, cb, cb, cb, cb, cb, cb, cb, cb, cb, cb, cb⟩ (fun hHeld => ?_)
  clear hKK KK
  try simp only [Act.put, List.setIfInBounds_toArray, List.set_cons_zero, List.set_cons_succ]
  refine wpAnyT_done (by kernel_rfl) ?_
  go_wp2
  refine bodyPost_ret (v := .tuple #[mV (.slice A n c0) (.slice A4 t'.length c4) (.slice A5 sn'.length c5) fuel (⟨sp', sh', mk', dp', t', sn'⟩ : SM), fV (⟨f, dep, r.l, dfs, ki, va, lv', df, pg, pa, rc, ou⟩ : SF) r (.slice A3 n3 c3), .int .i64 (-1)]) (by simp [results, Try.results132, go_sem]) rfl ?_
  exact InnerP.of (m' := (⟨sp', sh', mk', dp', t', sn'⟩ : SM)) (c' := (⟨f, dep, r.l, dfs, ki, va, lv', df, pg, pa, rc, ou⟩ : SF)) (at_ := -1) (r := r) (vt := .slice A4 t'.length c4) (vs := .slice A5 sn'.length c5) HQ.out rfl (Post.mk' (Ent.sep (S := _) (T := Row 75 3 (.slice A4 t'.length c4) t'.length (cEvs t') * (Row 112 2 (.slice A5 sn'.length c5) sn'.length (cPr sn') * S)) inferInstance inferInstance) inferInstance)
set_option maxRecDepth 100000 in
set_option maxHeartbeats 8000000 in
theorem spec_l2Inner0t (S : HP) (w : World) (A : Option Addr) (n c0 : Nat) (bs : List Bd) [rd : Rd S A (cBds bs)] [bd : Bodies S bs] (vt vs : Value) (A3 : Option Addr) (n3 c3 : Nat) (m : SM) (c : SF) (r : R4s) (hr : c.regs = r.l) [H0 : SepI w (Row 75 3 (vt) m.trace.length (cEvs m.trace) * (Row 112 2 (vs) m.seen.length (cPr m.seen) * S))] (fuel at_ : Int) (hat : 0 ≤ at_ ∧ at_ ≤ 1048576) (Pre : SM → SF → Prop) (call : CallS) (a : Int) (kb : Nat) (hkb : kb < 4) (hdep : 0 ≤ c.depth ∧ c.depth ≤ 1048576) (hcall : CallC A n c0 bs fuel (c.depth + 1) Pre call) (hpre : Pre m (freshIn c ⟨4, a, kb⟩)) (hkq : (call m (freshIn c ⟨4, a, kb⟩)).2.kind ≠ 1 ∧ (call m (freshIn c ⟨4, a, kb⟩)).2.kind ≠ 2 ∧ (call m (freshIn c ⟨4, a, kb⟩)).2.kind ≠ 3) (hlv : c.lv = true) :
    Calls Try.prog 132 #[mV (.slice A n c0) vt vs fuel m, fV c r (.slice A3 n3 c3), .int .i64 at_, .agg #[.int .i64 4, .int .i64 a, .int .i64 (kb : Int)]] w (InnerP S (.slice A n c0) (.slice A3 n3 c3) fuel (innerS call m c at_ ⟨4, a, kb⟩) w) := by
  obtain ⟨sp, sh, mk, dp, t, sn⟩ := m
  obtain ⟨f, dep, rg, dfs, ki, va, lv, df, pg, pa, rc, ou⟩ := c
  simp only at hr hdep hcall hlv
  subst hr
  subst hlv
  simp only at H0
  obtain ⟨A1, c1, rfl, hc1, hc1'⟩ := Row.form H0
  obtain ⟨A2, c2, rfl, hc2, hc2'⟩ := Row.form H0.right
  have HC1 := Hd.mk hc1
  have HC2 := Hd.mk hc2
  clear hc1 hc1' hc2 hc2'
  have hbI : (kb : Int) < 4 := by omega
  have hw : IntKind.i64.wrap (at_ + 1) = at_ + 1 := IntWalk.i64_in _ (by omega)
  have hwd : IntKind.i64.wrap (dep + 1) = dep + 1 := IntWalk.i64_in _ (by omega)
  have HKQ : Hd ((call (⟨sp, sh, mk, dp, t, sn⟩ : SM) (⟨a, dep + 1, (⟨regAt r.l kb, 0, 0, 0⟩ : R4s).l, [], 0, 0, false, false, false, 0, false, 0⟩ : SF)).2.kind ≠ 1 ∧ (call (⟨sp, sh, mk, dp, t, sn⟩ : SM) (⟨a, dep + 1, (⟨regAt r.l kb, 0, 0, 0⟩ : R4s).l, [], 0, 0, false, false, false, 0, false, 0⟩ : SF)).2.kind ≠ 2 ∧ (call (⟨sp, sh, mk, dp, t, sn⟩ : SM) (⟨a, dep + 1, (⟨regAt r.l kb, 0, 0, 0⟩ : R4s).l, [], 0, 0, false, false, false, 0, false, 0⟩ : SF)).2.kind ≠ 3) := ⟨hkq⟩
  clear hkq
  have HCALL := Hd.mk hcall
  have HPRE := Hd.mk hpre
  have HQ0 : Hd (innerS call (⟨sp, sh, mk, dp, t, sn⟩ : SM) (⟨f, dep, r.l, dfs, ki, va, true, df, pg, pa, rc, ou⟩ : SF) at_ ⟨4, a, kb⟩ = innerR (⟨f, dep, r.l, dfs, ki, va, true, df, pg, pa, rc, ou⟩ : SF) (call (⟨sp, sh, mk, dp, t, sn⟩ : SM) (⟨a, dep + 1, (⟨regAt r.l kb, 0, 0, 0⟩ : R4s).l, [], 0, 0, false, false, false, 0, false, 0⟩ : SF)) at_) := ⟨rfl⟩
  clear hcall hpre
  have hget : #[Value.int .i64 f, .int .i64 dep, .int .i64 (r.a), .int .i64 (r.b), .int .i64 (r.c), .int .i64 (r.d), .slice A3 n3 c3, .int .i64 ki, .int .i64 va, .bool true, .bool df, .bool pg, .int .i64 pa, .bool rc, .int .i64 ou][2 + kb]? = some (.int .i64 (regAt r.l kb)) := fr_get (by omega)
  go_enter Try.func132, Try.ntmps132
  go_wp2_with fail
  refine (HCALL.out (pts (w.heap.size + 1 + 1 + 1 + 1) (.cells #[Value.int .i64 0, .int .i64 0, .int .i64 0, .int .i64 0, .int .i64 0, .int .i64 0, .slice none 0 0, .int .i64 0, .int .i64 0, .bool false, .bool false, .bool false, .int .i64 0, .bool false, .int .i64 0] 123 (0, 0)) * (pts (w.heap.size + 1 + 1 + 1) (.cells #[Value.slice none 0 0, .int .i64 0, .bool false, .int .i64 0, .int .i64 0, .int .i64 0, .slice none 0 0, .slice none 0 0] 121 (0, 0)) * (pts (w.heap.size + 1 + 1) (.cells #[.int .i64 4, .int .i64 a, .int .i64 (kb : Int)] 141 (0, 0)) * (pts (w.heap.size + 1) (.cells #[Value.int .i64 f, .int .i64 dep, .int .i64 (r.a), .int .i64 (r.b), .int .i64 (r.c), .int .i64 (r.d), .slice A3 n3 c3, .int .i64 (ki), .int .i64 (va), .bool true, .bool df, .bool pg, .int .i64 pa, .bool rc, .int .i64 ou] 123 (0, 0)) * (pts w.heap.size (.cells #[Value.slice A n c0, .int .i64 fuel, .bool sp, .int .i64 sh, .int .i64 (mk : Int), .int .i64 dp, .slice A1 t.length c1, .slice A2 sn.length c2] 121 (0, 0)) * S))))) _ (.slice A1 t.length c1) (.slice A2 sn.length c2) (⟨sp, sh, mk, dp, t, sn⟩ : SM) (⟨a, dep + 1, (⟨regAt r.l kb, 0, 0, 0⟩ : R4s).l, [], 0, 0, false, false, false, 0, false, 0⟩ : SF) (⟨regAt r.l kb, 0, 0, 0⟩ : R4s) inferInstance inferInstance (SepI.cast (S := _) inferInstance (by ac_rfl)) rfl rfl rfl HPRE.out).mono ?_
  rintro e w4 ⟨vt4, vs4, vd4, r', rfl, hr', HP⟩
  obtain ⟨q, hq⟩ : ∃ q, call (⟨sp, sh, mk, dp, t, sn⟩ : SM) (⟨a, dep + 1, (⟨regAt r.l kb, 0, 0, 0⟩ : R4s).l, [], 0, 0, false, false, false, 0, false, 0⟩ : SF) = q := ⟨_, rfl⟩
  rw [hq] at hr' HP ⊢
  have HQ1 : Hd (innerS call (⟨sp, sh, mk, dp, t, sn⟩ : SM) (⟨f, dep, r.l, dfs, ki, va, true, df, pg, pa, rc, ou⟩ : SF) at_ ⟨4, a, kb⟩ = innerR (⟨f, dep, r.l, dfs, ki, va, true, df, pg, pa, rc, ou⟩ : SF) q at_) := ⟨by rw [HQ0.out, hq]⟩
  have hkk := HKQ.out
  rw [hq] at hkk
  clear hq HQ0 HKQ
  obtain ⟨⟨sp', sh', mk', dp', t', sn'⟩, ⟨f', dep', rg', dfs', ki', va', lv', df', pg', pa', rc', ou'⟩⟩ := q
  simp only at hr' HP hkk
  subst hr'
  have HKK := Hd.mk hkk
  clear hkk
  have HS4 := HP.sep
  have HE4 := HP.ext
  clear HP HCALL HPRE hget
  obtain ⟨A4, c4, rfl, hc4, hc4'⟩ := Row.form HS4
  obtain ⟨A5, c5, rfl, hc5, hc5'⟩ := Row.form HS4.right
  obtain ⟨A6, c6, rfl, hc6, hc6'⟩ := Row.form HS4.right.right
  clear hc4 hc4' hc5 hc5' hc6 hc6'
  simp only []
  rename_i hK
  refine hK _ _ ?_
  refine ev_val rfl _ rfl ?_
  refine ev_val rfl _ rfl ?_
  refine ev_val rfl _ rfl ?_
  refine ev_run (w1 := w4.alloc (.cells #[Value.int .i64 0, .int .i64 0, .int .i64 0, .int .i64 0, .int .i64 0, .int .i64 0, .slice none 0 0, .int .i64 0, .int .i64 0, .bool false, .bool false, .bool false, .int .i64 0, .bool false, .int .i64 0] 123 (0, 0))) rfl (.pointer (some ⟨w4.heap.size, 0, none⟩)) (by go_simp) ?_
  refine ev_store rfl 121 _ _ rfl (w.heap.size) #[Value.slice A n c0, .int .i64 fuel, .bool sp', .int .i64 sh', .int .i64 (mk' : Int), .int .i64 dp', .slice A4 t'.length c4, .slice A5 sn'.length c5] rfl rfl info_sm (by rfl) (by simp [Value.oneCell']) ?_
  intro w5 HS5 HE5
  refine ev_store rfl 123 _ _ rfl w4.heap.size #[Value.int .i64 f', .int .i64 dep', .int .i64 r'.a, .int .i64 r'.b, .int .i64 r'.c, .int .i64 r'.d, .slice A6 dfs'.length c6, .int .i64 ki', .int .i64 va', .bool lv', .bool df', .bool pg', .int .i64 pa', .bool rc', .int .i64 ou'] rfl rfl info_sf (by rfl) (by simp [Value.oneCell']) ?_
  intro w6 HS6 HE6
  have hkk := HKK.out
  have k1 : (ki' == 1) = false := beq_eq_false_iff_ne.2 hkk.1
  have k2 : (ki' == 2) = false := beq_eq_false_iff_ne.2 hkk.2.1
  have k3 : (ki' == 3) = false := beq_eq_false_iff_ne.2 hkk.2.2
  have HN := Hd.mk hkk
  clear hkk
  have HQ : Hd (innerS call (⟨sp, sh, mk, dp, t, sn⟩ : SM) (⟨f, dep, r.l, dfs, ki, va, true, df, pg, pa, rc, ou⟩ : SF) at_ ⟨4, a, kb⟩ = ((⟨sp', sh', mk', dp', t', sn'⟩ : SM), (⟨f, dep, r.l, dfs, ki, va, true, df, pg, pa, rc, ou⟩ : SF), -1)) := ⟨by rw [HQ1.out]; unfold innerR; simp only; rw [if_neg HN.out.1, if_neg HN.out.2.1, if_neg HN.out.2.2]; rfl⟩
  go_wp2
  refine wp_region_T 4 (by kernel_rfl) (by kernel_rfl) (fun w' => w'.cell? ⟨w.heap.size, 0, none⟩ = some (.slice A n c0) ∧ w'.cell? ⟨w.heap.size, 1, none⟩ = some (.int .i64 fuel) ∧ w'.cell? ⟨w.heap.size, 2, none⟩ = some (.bool sp') ∧ w'.cell? ⟨w.heap.size, 3, none⟩ = some (.int .i64 sh') ∧ w'.cell? ⟨w.heap.size, 4, none⟩ = some (.int .i64 (mk' : Int)) ∧ w'.cell? ⟨w.heap.size, 5, none⟩ = some (.int .i64 dp') ∧ w'.cell? ⟨w.heap.size, 6, none⟩ = some (.slice A4 t'.length c4) ∧ w'.cell? ⟨w.heap.size, 7, none⟩ = some (.slice A5 sn'.length c5) ∧ w'.cell? ⟨w.heap.size + 1, 0, none⟩ = some (.int .i64 f) ∧ w'.cell? ⟨w.heap.size + 1, 1, none⟩ = some (.int .i64 dep) ∧ w'.cell? ⟨w.heap.size + 1, 2, none⟩ = some (.int .i64 (r.a)) ∧ w'.cell? ⟨w.heap.size + 1, 3, none⟩ = some (.int .i64 (r.b)) ∧ w'.cell? ⟨w.heap.size + 1, 4, none⟩ = some (.int .i64 (r.c)) ∧ w'.cell? ⟨w.heap.size + 1, 5, none⟩ = some (.int .i64 (r.d)) ∧ w'.cell? ⟨w.heap.size + 1, 6, none⟩ = some (.slice A3 n3 c3) ∧ w'.cell? ⟨w.heap.size + 1, 7, none⟩ = some (.int .i64 (ki)) ∧ w'.cell? ⟨w.heap.size + 1, 8, none⟩ = some (.int .i64 (va)) ∧ w'.cell? ⟨w.heap.size + 1, 9, none⟩ = some (.bool true) ∧ w'.cell? ⟨w.heap.size + 1, 10, none⟩ = some (.bool df) ∧ w'.cell? ⟨w.heap.size + 1, 11, none⟩ = some (.bool pg) ∧ w'.cell? ⟨w.heap.size + 1, 12, none⟩ = some (.int .i64 pa) ∧ w'.cell? ⟨w.heap.size + 1, 13, none⟩ = some (.bool rc) ∧ w'.cell? ⟨w.heap.size + 1, 14, none⟩ = some (.int .i64 ou)) ⟨cb, cb, cb, cb, cb, cb, cb, cb, cb, cb, cb, cb, cb, cb, cb, cb, cb, cb, cb, cb, cb, cb, cb⟩ (fun hHeld => ?_)
  refine wpAnyT_takeL (i := 0) (v := ?_) rfl (by kernel_rfl) (by kernel_rfl) (by kernel_rfl) (by kernel_rfl) (by kernel_rfl) (fun _ _ _ h => h) (Or.inl ⟨by rfl, ?_⟩) (by assumption) ?_
  rotate_left
  · (intro w hSw; (try dsimp only at hSw); go_simp; try with_reducible rfl)
  try simp only [Act.put, List.setIfInBounds_toArray, List.set_cons_zero, List.set_cons_succ]
  refine wpAnyT_takeL (i := 1) (v := ?_) rfl (by kernel_rfl) (by kernel_rfl) (by kernel_rfl) (by kernel_rfl) (by kernel_rfl) (fun _ _ _ h => h) (Or.inl ⟨by rfl, ?_⟩) (by assumption) ?_
  rotate_left
  · (intro w hSw; (try dsimp only at hSw); go_simp; try with_reducible rfl)
  try simp only [Act.put, List.setIfInBounds_toArray, List.set_cons_zero, List.set_cons_succ]
  refine wpAnyT_one (i := 2) (by kernel_rfl) rfl (by kernel_rfl) (fun KK hKK => ?_)
  refine st_list rfl (ev_store rfl 121 _ _ rfl (w.heap.size + 1 + 1 + 1) #[Value.slice A n c0, .int .i64 fuel, .bool sp', .int .i64 sh', .int .i64 (mk' : Int), .int .i64 dp', .slice A4 t'.length c4, .slice A5 sn'.length c5] rfl rfl info_sm (by rfl) (by simp [Value.oneCell']) ?_)
  intro w8 HS8 HE8
  refine ⟨rfl, ?_⟩
  refine hKK.out _ _ ⟨cb, cb, cb, cb, cb, cb, cb, cb, cb, cb, cb, cb, cb, cb, cb, cb, cb, cb, cb, cb, cb, cb, cb⟩ (fun hHeld => ?_)
  clear hKK KK
  try simp only [Act.put, List.setIfInBounds_toArray, List.set_cons_zero, List.set_cons_succ]
  refine wpAnyT_one (i := 3) (by kernel_rfl) rfl (by kernel_rfl) (fun KK hKK => ?_)
  refine st_list rfl (ev_store rfl 123 _ _ rfl (w.heap.size + 1 + 1 + 1 + 1) #[Value.int .i64 f, .int .i64 dep, .int .i64 (r.a), .int .i64 (r.b), .int .i64 (r.c), .int .i64 (r.d), .slice A3 n3 c3, .int .i64 (ki), .int .i64 (va), .bool true, .bool df, .bool pg, .int .i64 pa, .bool rc, .int .i64 ou] rfl rfl info_sf (by rfl) (by simp [Value.oneCell']) ?_)
  intro w9 HS9 HE9
  refine ⟨rfl, ?_⟩
  refine hKK.out _ _ ⟨cb, cb, cb, cb, cb, cb, cb, cb, cb, cb, cb, cb, cb, cb, cb, cb, cb, cb, cb, cb, cb, cb, cb⟩ (fun hHeld => ?_)
  clear hKK KK
  try simp only [Act.put, List.setIfInBounds_toArray, List.set_cons_zero, List.set_cons_succ]
  refine wpAnyT_done (by kernel_rfl) ?_
  go_wp2
  refine bodyPost_ret (v := .tuple #[mV (.slice A n c0) (.slice A4 t'.length c4) (.slice A5 sn'.length c5) fuel (⟨sp', sh', mk', dp', t', sn'⟩ : SM), fV (⟨f, dep, r.l, dfs, ki, va, true, df, pg, pa, rc, ou⟩ : SF) r (.slice A3 n3 c3), .int .i64 (-1)]) (by simp [results, Try.results132, go_sem]) rfl ?_
  exact InnerP.of (m' := (⟨sp', sh', mk', dp', t', sn'⟩ : SM)) (c' := (⟨f, dep, r.l, dfs, ki, va, true, df, pg, pa, rc, ou⟩ : SF)) (at_ := -1) (r := r) (vt := .slice A4 t'.length c4) (vs := .slice A5 sn'.length c5) HQ.out rfl (Post.mk' (Ent.sep (S := _) (T := Row 75 3 (.slice A4 t'.length c4) t'.length (cEvs t') * (Row 112 2 (.slice A5 sn'.length c5) sn'.length (cPr sn') * S)) inferInstance inferInstance) inferInstance)
end Go.Proofs.Ytobikkdnalnllaa
