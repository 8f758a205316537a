/- The reference's machine: steps that end a body, jumps. Conditions: registers within bounds. -/
import Derived.Test.YtobikkdnalnllaaQc
namespace Go.Proofs.Ytobikkdnalnllaa
open Go.RowKit SL
attribute [local go_sem] cell_blk frozen_blk lt_blk cell_at frozen_row lt_row
set_option linter.unusedVariables false
set_option linter.unusedSimpArgs false

/-- What a step hands back that touches no row. -/
def MakeK (S : HP) (P vt vs vd : Value) (fuel : Int) (q : SM × SF × Int) (w : World) (e : Ending) (w' : World) : Prop := ∃ r, e = .returned (.tuple #[mV P vt vs fuel q.1, fV q.2.1 r vd, .int .i64 q.2.2]) ∧ q.2.1.regs = r.l ∧ Post w S w'
theorem MakeK.of {S : HP} {P vt vs vd : Value} {fuel : Int} {q : SM × SF × Int} {w w' : World} {m' : SM} {c' : SF} {at_ : Int} {r : R4s} (hq : q = (m', c', at_)) (hr : c'.regs = r.l) (hp : Post w S w') : MakeK S P vt vs vd fuel q w (.returned (.tuple #[mV P vt vs fuel m', fV c' r vd, .int .i64 at_])) w' := by
  subst hq
  exact ⟨r, rfl, hr, hp⟩
set_option maxRecDepth 100000 in
set_option maxHeartbeats 2000000 in
theorem spec_make8 (S : HP) (w : World) [H : SepI w S] (A : Option Addr) (n c0 : Nat) (A1 : Option Addr) (n1 c1 : Nat) (A2 : Option Addr) (n2 c2 : Nat) (A3 : Option Addr) (n3 c3 : Nat) (m : SM) (c : SF) (r : R4s) (hr : c.regs = r.l) (fuel at_ : Int) (hat : 0 ≤ at_ ∧ at_ ≤ 1048576) (call : CallS) (a b : Int) (ka : Nat) (hka : ka < 4) (hA : a = ka) :
    Calls Try.prog 117 #[mV (.slice A n c0) (.slice A1 n1 c1) (.slice A2 n2 c2) fuel m, fV c r (.slice A3 n3 c3), .int .i64 at_, .agg #[.int .i64 8, .int .i64 a, .int .i64 b]] w (MakeK S (.slice A n c0) (.slice A1 n1 c1) (.slice A2 n2 c2) (.slice A3 n3 c3) fuel (makeS call m c at_ ⟨8, a, b⟩) w) := by
  obtain ⟨sp, sh, mk, dp, t, sn⟩ := m
  obtain ⟨f, dep, rg, dfs, ki, va, lv, df, pg, pa, rc, ou⟩ := c
  simp only at hr
  subst hr
  subst hA
  have haI : (ka : Int) < 4 := by omega
  have HQ : Hd (makeS call (⟨sp, sh, mk, dp, t, sn⟩ : SM) (⟨f, dep, r.l, dfs, ki, va, lv, df, pg, pa, rc, ou⟩ : SF) at_ ⟨8, ka, b⟩ = ((⟨sp, sh, mk, dp, t, sn⟩ : SM), (⟨f, dep, regSet r.l 1 (regAt r.l ka), dfs, ki, va, lv, df, pg, pa, rc, ou⟩ : SF), -1)) := ⟨by rfl⟩
  have hget : #[Value.int .i64 f, .int .i64 dep, .int .i64 (r.a), .int .i64 (r.b), .int .i64 (r.c), .int .i64 (r.d), .slice A3 n3 c3, .int .i64 ki, .int .i64 va, .bool lv, .bool df, .bool pg, .int .i64 pa, .bool rc, .int .i64 ou][2 + ka]? = some (.int .i64 (regAt r.l ka)) := fr_get (by omega)
  go_enter Try.func117, Try.ntmps117
  go_wp2
  refine wp_region_T 4 (by kernel_rfl) (by kernel_rfl) (fun w' => w'.cell? ⟨w.heap.size, 0, none⟩ = some (.slice A n c0) ∧ w'.cell? ⟨w.heap.size, 1, none⟩ = some (.int .i64 fuel) ∧ w'.cell? ⟨w.heap.size, 2, none⟩ = some (.bool sp) ∧ w'.cell? ⟨w.heap.size, 3, none⟩ = some (.int .i64 sh) ∧ w'.cell? ⟨w.heap.size, 4, none⟩ = some (.int .i64 (mk : Int)) ∧ w'.cell? ⟨w.heap.size, 5, none⟩ = some (.int .i64 dp) ∧ w'.cell? ⟨w.heap.size, 6, none⟩ = some (.slice A1 n1 c1) ∧ w'.cell? ⟨w.heap.size, 7, none⟩ = some (.slice A2 n2 c2) ∧ w'.cell? ⟨w.heap.size + 1, 0, none⟩ = some (.int .i64 f) ∧ w'.cell? ⟨w.heap.size + 1, 1, none⟩ = some (.int .i64 dep) ∧ w'.cell? ⟨w.heap.size + 1, 2, none⟩ = some (.int .i64 (r.a)) ∧ w'.cell? ⟨w.heap.size + 1, 3, none⟩ = some (.int .i64 (regAt r.l ka)) ∧ w'.cell? ⟨w.heap.size + 1, 4, none⟩ = some (.int .i64 (r.c)) ∧ w'.cell? ⟨w.heap.size + 1, 5, none⟩ = some (.int .i64 (r.d)) ∧ w'.cell? ⟨w.heap.size + 1, 6, none⟩ = some (.slice A3 n3 c3) ∧ w'.cell? ⟨w.heap.size + 1, 7, none⟩ = some (.int .i64 (ki)) ∧ w'.cell? ⟨w.heap.size + 1, 8, none⟩ = some (.int .i64 (va)) ∧ w'.cell? ⟨w.heap.size + 1, 9, none⟩ = some (.bool lv) ∧ w'.cell? ⟨w.heap.size + 1, 10, none⟩ = some (.bool df) ∧ w'.cell? ⟨w.heap.size + 1, 11, none⟩ = some (.bool pg) ∧ w'.cell? ⟨w.heap.size + 1, 12, none⟩ = some (.int .i64 pa) ∧ w'.cell? ⟨w.heap.size + 1, 13, none⟩ = some (.bool rc) ∧ w'.cell? ⟨w.heap.size + 1, 14, none⟩ = some (.int .i64 ou)) ⟨cb, cb, cb, cb, cb, cb, cb, cb, cb, cb, cb, cb, cb, cb, cb, cb, cb, cb, cb, cb, cb, cb, cb⟩ (fun hHeld => ?_)
  refine wpAnyT_takeL (i := 0) (v := ?_) rfl (by kernel_rfl) (by kernel_rfl) (by kernel_rfl) (by kernel_rfl) (by kernel_rfl) (fun _ _ _ h => h) (Or.inl ⟨by rfl, ?_⟩) (by assumption) ?_
  rotate_left
  · (intro w hSw; (try dsimp only at hSw); go_simp; try with_reducible rfl)
  try simp only [Act.put, List.setIfInBounds_toArray, List.set_cons_zero, List.set_cons_succ]
  refine wpAnyT_takeL (i := 1) (v := ?_) rfl (by kernel_rfl) (by kernel_rfl) (by kernel_rfl) (by kernel_rfl) (by kernel_rfl) (fun _ _ _ h => h) (Or.inl ⟨by rfl, ?_⟩) (by assumption) ?_
  rotate_left
  · (intro w hSw; (try dsimp only at hSw); go_simp; try with_reducible rfl)
  try simp only [Act.put, List.setIfInBounds_toArray, List.set_cons_zero, List.set_cons_succ]
  refine wpAnyT_one (i := 2) (by kernel_rfl) rfl (by kernel_rfl) (fun KK hKK => ?_)
  refine st_list rfl (ev_store rfl 121 _ _ rfl (w.heap.size + 1 + 1 + 1) #[Value.slice A n c0, .int .i64 fuel, .bool sp, .int .i64 sh, .int .i64 (mk : Int), .int .i64 dp, .slice A1 n1 c1, .slice A2 n2 c2] rfl rfl info_sm (by rfl) (by simp [Value.oneCell']) ?_)
  intro w8 HS8 HE8
  refine ⟨rfl, ?_⟩
  refine hKK.out _ _ ⟨cb, cb, cb, cb, cb, cb, cb, cb, cb, cb, cb, cb, cb, cb, cb, cb, cb, cb, cb, cb, cb, cb, cb⟩ (fun hHeld => ?_)
  clear hKK KK
  try simp only [Act.put, List.setIfInBounds_toArray, List.set_cons_zero, List.set_cons_succ]
  refine wpAnyT_one (i := 3) (by kernel_rfl) rfl (by kernel_rfl) (fun KK hKK => ?_)
  refine st_list rfl (ev_store rfl 123 _ _ rfl (w.heap.size + 1 + 1 + 1 + 1) #[Value.int .i64 f, .int .i64 dep, .int .i64 (r.a), .int .i64 (regAt r.l ka), .int .i64 (r.c), .int .i64 (r.d), .slice A3 n3 c3, .int .i64 (ki), .int .i64 (va), .bool lv, .bool df, .bool pg, .int .i64 pa, .bool rc, .int .i64 ou] rfl rfl info_sf (by rfl) (by simp [Value.oneCell']) ?_)
  intro w9 HS9 HE9
  refine ⟨rfl, ?_⟩
  refine hKK.out _ _ ⟨cb, cb, cb, cb, cb, cb, cb, cb, cb, cb, cb, cb, cb, cb, cb, cb, cb, cb, cb, cb, cb, cb, cb⟩ (fun hHeld => ?_)
  clear hKK KK
  try simp only [Act.put, List.setIfInBounds_toArray, List.set_cons_zero, List.set_cons_succ]
  refine wpAnyT_done (by kernel_rfl) ?_
  go_wp2
  refine bodyPost_ret (v := .tuple #[mV (.slice A n c0) (.slice A1 n1 c1) (.slice A2 n2 c2) fuel (⟨sp, sh, mk, dp, t, sn⟩ : SM), fV (⟨f, dep, regSet r.l 1 (regAt r.l ka), dfs, ki, va, lv, df, pg, pa, rc, ou⟩ : SF) (⟨r.a, regAt r.l ka, r.c, r.d⟩ : R4s) (.slice A3 n3 c3), .int .i64 (-1)]) (by simp [results, Try.results117, go_sem]) rfl ?_
  exact MakeK.of (m' := (⟨sp, sh, mk, dp, t, sn⟩ : SM)) (c' := (⟨f, dep, regSet r.l 1 (regAt r.l ka), dfs, ki, va, lv, df, pg, pa, rc, ou⟩ : SF)) (at_ := -1) (r := (⟨r.a, regAt r.l ka, r.c, r.d⟩ : R4s)) HQ.out (rfl) (Post.mk' (Ent.sep (S := _) (T := S) inferInstance inferInstance) inferInstance)
set_option maxRecDepth 100000 in
set_option maxHeartbeats 2000000 in
theorem spec_make10 (S : HP) (w : World) [H : SepI w S] (A : Option Addr) (n c0 : Nat) (A1 : Option Addr) (n1 c1 : Nat) (A2 : Option Addr) (n2 c2 : Nat) (A3 : Option Addr) (n3 c3 : Nat) (m : SM) (c : SF) (r : R4s) (hr : c.regs = r.l) (fuel at_ : Int) (hat : 0 ≤ at_ ∧ at_ ≤ 1048576) (call : CallS) (a b : Int) :
    Calls Try.prog 117 #[mV (.slice A n c0) (.slice A1 n1 c1) (.slice A2 n2 c2) fuel m, fV c r (.slice A3 n3 c3), .int .i64 at_, .agg #[.int .i64 10, .int .i64 a, .int .i64 b]] w (MakeK S (.slice A n c0) (.slice A1 n1 c1) (.slice A2 n2 c2) (.slice A3 n3 c3) fuel (makeS call m c at_ ⟨10, a, b⟩) w) := by
  obtain ⟨sp, sh, mk, dp, t, sn⟩ := m
  obtain ⟨f, dep, rg, dfs, ki, va, lv, df, pg, pa, rc, ou⟩ := c
  simp only at hr
  subst hr
  have HQ : Hd (makeS call (⟨sp, sh, mk, dp, t, sn⟩ : SM) (⟨f, dep, r.l, dfs, ki, va, lv, df, pg, pa, rc, ou⟩ : SF) at_ ⟨10, a, b⟩ = ((⟨sp, sh, mk, dp, t, sn⟩ : SM), (⟨f, dep, r.l, dfs, 3, va, true, df, pg, pa, rc, ou⟩ : SF), -1)) := ⟨by rfl⟩
  go_enter Try.func117, Try.ntmps117
  go_wp2
  refine wp_region_T 4 (by kernel_rfl) (by kernel_rfl) (fun w' => w'.cell? ⟨w.heap.size, 0, none⟩ = some (.slice A n c0) ∧ w'.cell? ⟨w.heap.size, 1, none⟩ = some (.int .i64 fuel) ∧ w'.cell? ⟨w.heap.size, 2, none⟩ = some (.bool sp) ∧ w'.cell? ⟨w.heap.size, 3, none⟩ = some (.int .i64 sh) ∧ w'.cell? ⟨w.heap.size, 4, none⟩ = some (.int .i64 (mk : Int)) ∧ w'.cell? ⟨w.heap.size, 5, none⟩ = some (.int .i64 dp) ∧ w'.cell? ⟨w.heap.size, 6, none⟩ = some (.slice A1 n1 c1) ∧ w'.cell? ⟨w.heap.size, 7, none⟩ = some (.slice A2 n2 c2) ∧ w'.cell? ⟨w.heap.size + 1, 0, none⟩ = some (.int .i64 f) ∧ w'.cell? ⟨w.heap.size + 1, 1, none⟩ = some (.int .i64 dep) ∧ w'.cell? ⟨w.heap.size + 1, 2, none⟩ = some (.int .i64 (r.a)) ∧ w'.cell? ⟨w.heap.size + 1, 3, none⟩ = some (.int .i64 (r.b)) ∧ w'.cell? ⟨w.heap.size + 1, 4, none⟩ = some (.int .i64 (r.c)) ∧ w'.cell? ⟨w.heap.size + 1, 5, none⟩ = some (.int .i64 (r.d)) ∧ w'.cell? ⟨w.heap.size + 1, 6, none⟩ = some (.slice A3 n3 c3) ∧ w'.cell? ⟨w.heap.size + 1, 7, none⟩ = some (.int .i64 (3)) ∧ w'.cell? ⟨w.heap.size + 1, 8, none⟩ = some (.int .i64 (va)) ∧ w'.cell? ⟨w.heap.size + 1, 9, none⟩ = some (.bool true) ∧ w'.cell? ⟨w.heap.size + 1, 10, none⟩ = some (.bool df) ∧ w'.cell? ⟨w.heap.size + 1, 11, none⟩ = some (.bool pg) ∧ w'.cell? ⟨w.heap.size + 1, 12, none⟩ = some (.int .i64 pa) ∧ w'.cell? ⟨w.heap.size + 1, 13, none⟩ = some (.bool rc) ∧ w'.cell? ⟨w.heap.size + 1, 14, none⟩ = some (.int .i64 ou)) ⟨cb, cb, cb, cb, cb, cb, cb, cb, cb, cb, cb, cb, cb, cb, cb, cb, cb, cb, cb, cb, cb, cb, cb⟩ (fun hHeld => ?_)
  refine wpAnyT_takeL (i := 0) (v := ?_) rfl (by kernel_rfl) (by kernel_rfl) (by kernel_rfl) (by kernel_rfl) (by kernel_rfl) (fun _ _ _ h => h) (Or.inl ⟨by rfl, ?_⟩) (by assumption) ?_
  rotate_left
  · (intro w hSw; (try dsimp only at hSw); go_simp; try with_reducible rfl)
  try simp only [Act.put, List.setIfInBounds_toArray, List.set_cons_zero, List.set_cons_succ]
  refine wpAnyT_takeL (i := 1) (v := ?_) rfl (by kernel_rfl) (by kernel_rfl) (by kernel_rfl) (by kernel_rfl) (by kernel_rfl) (fun _ _ _ h => h) (Or.inl ⟨by rfl, ?_⟩) (by assumption) ?_
  rotate_left
  · (intro w hSw; (try dsimp only at hSw); go_simp; try with_reducible rfl)
  try simp only [Act.put, List.setIfInBounds_toArray, List.set_cons_zero, List.set_cons_succ]
  refine wpAnyT_one (i := 2) (by kernel_rfl) rfl (by kernel_rfl) (fun KK hKK => ?_)
  refine st_list rfl (ev_store rfl 121 _ _ rfl (w.heap.size + 1 + 1 + 1) #[Value.slice A n c0, .int .i64 fuel, .bool sp, .int .i64 sh, .int .i64 (mk : Int), .int .i64 dp, .slice A1 n1 c1, .slice A2 n2 c2] rfl rfl info_sm (by rfl) (by simp [Value.oneCell']) ?_)
  intro w8 HS8 HE8
  refine ⟨rfl, ?_⟩
  refine hKK.out _ _ ⟨cb, cb, cb, cb, cb, cb, cb, cb, cb, cb, cb, cb, cb, cb, cb, cb, cb, cb, cb, cb, cb, cb, cb⟩ (fun hHeld => ?_)
  clear hKK KK
  try simp only [Act.put, List.setIfInBounds_toArray, List.set_cons_zero, List.set_cons_succ]
  refine wpAnyT_one (i := 3) (by kernel_rfl) rfl (by kernel_rfl) (fun KK hKK => ?_)
  refine st_list rfl (ev_store rfl 123 _ _ rfl (w.heap.size + 1 + 1 + 1 + 1) #[Value.int .i64 f, .int .i64 dep, .int .i64 (r.a), .int .i64 (r.b), .int .i64 (r.c), .int .i64 (r.d), .slice A3 n3 c3, .int .i64 (3), .int .i64 (va), .bool true, .bool df, .bool pg, .int .i64 pa, .bool rc, .int .i64 ou] rfl rfl info_sf (by rfl) (by simp [Value.oneCell']) ?_)
  intro w9 HS9 HE9
  refine ⟨rfl, ?_⟩
  refine hKK.out _ _ ⟨cb, cb, cb, cb, cb, cb, cb, cb, cb, cb, cb, cb, cb, cb, cb, cb, cb, cb, cb, cb, cb, cb, cb⟩ (fun hHeld => ?_)
  clear hKK KK
  try simp only [Act.put, List.setIfInBounds_toArray, List.set_cons_zero, List.set_cons_succ]
  refine wpAnyT_done (by kernel_rfl) ?_
  go_wp2
  refine bodyPost_ret (v := .tuple #[mV (.slice A n c0) (.slice A1 n1 c1) (.slice A2 n2 c2) fuel (⟨sp, sh, mk, dp, t, sn⟩ : SM), fV (⟨f, dep, r.l, dfs, 3, va, true, df, pg, pa, rc, ou⟩ : SF) r (.slice A3 n3 c3), .int .i64 (-1)]) (by simp [results, Try.results117, go_sem]) rfl ?_
  exact MakeK.of (m' := (⟨sp, sh, mk, dp, t, sn⟩ : SM)) (c' := (⟨f, dep, r.l, dfs, 3, va, true, df, pg, pa, rc, ou⟩ : SF)) (at_ := -1) (r := r) HQ.out (rfl) (Post.mk' (Ent.sep (S := _) (T := S) inferInstance inferInstance) inferInstance)
set_option maxRecDepth 100000 in
set_option maxHeartbeats 2000000 in
theorem spec_make11y (S : HP) (w : World) [H : SepI w S] (A : Option Addr) (n c0 : Nat) (A1 : Option Addr) (n1 c1 : Nat) (A2 : Option Addr) (n2 c2 : Nat) (A3 : Option Addr) (n3 c3 : Nat) (m : SM) (c : SF) (r : R4s) (hr : c.regs = r.l) (fuel at_ : Int) (hat : 0 ≤ at_ ∧ at_ ≤ 1048576) (call : CallS) (a b : Int) (kb : Nat) (hkb : kb < 4) (hB : b = kb) (hj : 0 < regAt r.l kb) :
    Calls Try.prog 117 #[mV (.slice A n c0) (.slice A1 n1 c1) (.slice A2 n2 c2) fuel m, fV c r (.slice A3 n3 c3), .int .i64 at_, .agg #[.int .i64 11, .int .i64 a, .int .i64 b]] w (MakeK S (.slice A n c0) (.slice A1 n1 c1) (.slice A2 n2 c2) (.slice A3 n3 c3) fuel (makeS call m c at_ ⟨11, a, b⟩) w) := by
  obtain ⟨sp, sh, mk, dp, t, sn⟩ := m
  obtain ⟨f, dep, rg, dfs, ki, va, lv, df, pg, pa, rc, ou⟩ := c
  simp only at hr
  subst hr
  subst hB
  have hbI : (kb : Int) < 4 := by omega
  have HQ : Hd (makeS call (⟨sp, sh, mk, dp, t, sn⟩ : SM) (⟨f, dep, r.l, dfs, ki, va, lv, df, pg, pa, rc, ou⟩ : SF) at_ ⟨11, a, kb⟩ = ((⟨sp, sh, mk, dp, t, sn⟩ : SM), (⟨f, dep, r.l, dfs, ki, va, lv, df, pg, pa, rc, ou⟩ : SF), a)) := ⟨by show (_, _, if regAt r.l kb > 0 then a else at_ + 1) = _; rw [if_pos hj]⟩
  have hget : #[Value.int .i64 f, .int .i64 dep, .int .i64 (r.a), .int .i64 (r.b), .int .i64 (r.c), .int .i64 (r.d), .slice A3 n3 c3, .int .i64 ki, .int .i64 va, .bool lv, .bool df, .bool pg, .int .i64 pa, .bool rc, .int .i64 ou][2 + kb]? = some (.int .i64 (regAt r.l kb)) := fr_get (by omega)
  go_enter Try.func117, Try.ntmps117
  go_wp2
  refine wp_region_T 6 (by kernel_rfl) (by kernel_rfl) (fun w' => w'.cell? ⟨w.heap.size, 0, none⟩ = some (.slice A n c0) ∧ w'.cell? ⟨w.heap.size, 1, none⟩ = some (.int .i64 fuel) ∧ w'.cell? ⟨w.heap.size, 2, none⟩ = some (.bool sp) ∧ w'.cell? ⟨w.heap.size, 3, none⟩ = some (.int .i64 sh) ∧ w'.cell? ⟨w.heap.size, 4, none⟩ = some (.int .i64 (mk : Int)) ∧ w'.cell? ⟨w.heap.size, 5, none⟩ = some (.int .i64 dp) ∧ w'.cell? ⟨w.heap.size, 6, none⟩ = some (.slice A1 n1 c1) ∧ w'.cell? ⟨w.heap.size, 7, none⟩ = some (.slice A2 n2 c2) ∧ w'.cell? ⟨w.heap.size + 1, 0, none⟩ = some (.int .i64 f) ∧ w'.cell? ⟨w.heap.size + 1, 1, none⟩ = some (.int .i64 dep) ∧ w'.cell? ⟨w.heap.size + 1, 2, none⟩ = some (.int .i64 (r.a)) ∧ w'.cell? ⟨w.heap.size + 1, 3, none⟩ = some (.int .i64 (r.b)) ∧ w'.cell? ⟨w.heap.size + 1, 4, none⟩ = some (.int .i64 (r.c)) ∧ w'.cell? ⟨w.heap.size + 1, 5, none⟩ = some (.int .i64 (r.d)) ∧ w'.cell? ⟨w.heap.size + 1, 6, none⟩ = some (.slice A3 n3 c3) ∧ w'.cell? ⟨w.heap.size + 1, 7, none⟩ = some (.int .i64 (ki)) ∧ w'.cell? ⟨w.heap.size + 1, 8, none⟩ = some (.int .i64 (va)) ∧ w'.cell? ⟨w.heap.size + 1, 9, none⟩ = some (.bool lv) ∧ w'.cell? ⟨w.heap.size + 1, 10, none⟩ = some (.bool df) ∧ w'.cell? ⟨w.heap.size + 1, 11, none⟩ = some (.bool pg) ∧ w'.cell? ⟨w.heap.size + 1, 12, none⟩ = some (.int .i64 pa) ∧ w'.cell? ⟨w.heap.size + 1, 13, none⟩ = some (.bool rc) ∧ w'.cell? ⟨w.heap.size + 1, 14, none⟩ = some (.int .i64 ou) ∧ w'.cell? ⟨w.heap.size + 1 + 1, 1, none⟩ = some (.int .i64 a)) ⟨cb, cb, cb, cb, cb, cb, cb, cb, cb, cb, cb, cb, cb, cb, cb, cb, cb, cb, cb, cb, cb, cb, cb, cb⟩ (fun hHeld => ?_)
  refine wpAnyT_takeL (i := 0) (v := ?_) rfl (by kernel_rfl) (by kernel_rfl) (by kernel_rfl) (by kernel_rfl) (by kernel_rfl) (fun _ _ _ h => h) (Or.inl ⟨by rfl, ?_⟩) (by assumption) ?_
  rotate_left
  · (intro w hSw; (try dsimp only at hSw); go_simp; try with_reducible rfl)
  try simp only [Act.put, List.setIfInBounds_toArray, List.set_cons_zero, List.set_cons_succ]
  refine wpAnyT_takeL (i := 1) (v := ?_) rfl (by kernel_rfl) (by kernel_rfl) (by kernel_rfl) (by kernel_rfl) (by kernel_rfl) (fun _ _ _ h => h) (Or.inl ⟨by rfl, ?_⟩) (by assumption) ?_
  rotate_left
  · (intro w hSw; (try dsimp only at hSw); go_simp; try with_reducible rfl)
  try simp only [Act.put, List.setIfInBounds_toArray, List.set_cons_zero, List.set_cons_succ]
  refine wpAnyT_takeL (i := 2) (v := ?_) rfl (by kernel_rfl) (by kernel_rfl) (by kernel_rfl) (by kernel_rfl) (by kernel_rfl) (fun _ _ _ h => h) (Or.inl ⟨by rfl, ?_⟩) (by assumption) ?_
  rotate_left
  · (intro w hSw; (try dsimp only at hSw); go_simp; try with_reducible rfl)
  try simp only [Act.put, List.setIfInBounds_toArray, List.set_cons_zero, List.set_cons_succ]
  refine wpAnyT_takeL (i := 3) (v := ?_) rfl (by kernel_rfl) (by kernel_rfl) (by kernel_rfl) (by kernel_rfl) (by kernel_rfl) (fun _ _ _ h => h) (Or.inl ⟨by rfl, ?_⟩) (by assumption) ?_
  rotate_left
  · (intro w hSw; (try dsimp only at hSw); go_simp; try with_reducible rfl)
  try simp only [Act.put, List.setIfInBounds_toArray, List.set_cons_zero, List.set_cons_succ]
  refine wpAnyT_one (i := 4) (by kernel_rfl) rfl (by kernel_rfl) (fun KK hKK => ?_)
  refine st_list rfl (ev_store rfl 121 _ _ rfl (w.heap.size + 1 + 1 + 1) #[Value.slice A n c0, .int .i64 fuel, .bool sp, .int .i64 sh, .int .i64 (mk : Int), .int .i64 dp, .slice A1 n1 c1, .slice A2 n2 c2] rfl rfl info_sm (by rfl) (by simp [Value.oneCell']) ?_)
  intro w8 HS8 HE8
  refine ⟨rfl, ?_⟩
  refine hKK.out _ _ ⟨cb, cb, cb, cb, cb, cb, cb, cb, cb, cb, cb, cb, cb, cb, cb, cb, cb, cb, cb, cb, cb, cb, cb, cb⟩ (fun hHeld => ?_)
  clear hKK KK
  try simp only [Act.put, List.setIfInBounds_toArray, List.set_cons_zero, List.set_cons_succ]
  refine wpAnyT_one (i := 5) (by kernel_rfl) rfl (by kernel_rfl) (fun KK hKK => ?_)
  refine st_list rfl (ev_store rfl 123 _ _ rfl (w.heap.size + 1 + 1 + 1 + 1) #[Value.int .i64 f, .int .i64 dep, .int .i64 (r.a), .int .i64 (r.b), .int .i64 (r.c), .int .i64 (r.d), .slice A3 n3 c3, .int .i64 (ki), .int .i64 (va), .bool lv, .bool df, .bool pg, .int .i64 pa, .bool rc, .int .i64 ou] rfl rfl info_sf (by rfl) (by simp [Value.oneCell']) ?_)
  intro w9 HS9 HE9
  refine ⟨rfl, ?_⟩
  refine hKK.out _ _ ⟨cb, cb, cb, cb, cb, cb, cb, cb, cb, cb, cb, cb, cb, cb, cb, cb, cb, cb, cb, cb, cb, cb, cb, cb⟩ (fun hHeld => ?_)
  clear hKK KK
  try simp only [Act.put, List.setIfInBounds_toArray, List.set_cons_zero, List.set_cons_succ]
  refine wpAnyT_done (by kernel_rfl) ?_
  go_wp2
  refine bodyPost_ret (v := .tuple #[mV (.slice A n c0) (.slice A1 n1 c1) (.slice A2 n2 c2) fuel (⟨sp, sh, mk, dp, t, sn⟩ : SM), fV (⟨f, dep, r.l, dfs, ki, va, lv, df, pg, pa, rc, ou⟩ : SF) r (.slice A3 n3 c3), .int .i64 (a)]) (by simp [results, Try.results117, go_sem]) rfl ?_
  exact MakeK.of (m' := (⟨sp, sh, mk, dp, t, sn⟩ : SM)) (c' := (⟨f, dep, r.l, dfs, ki, va, lv, df, pg, pa, rc, ou⟩ : SF)) (at_ := a) (r := r) HQ.out (rfl) (Post.mk' (Ent.sep (S := _) (T := S) inferInstance inferInstance) inferInstance)
set_option maxRecDepth 100000 in
set_option maxHeartbeats 2000000 in
theorem spec_make11n (S : HP) (w : World) [H : SepI w S] (A : Option Addr) (n c0 : Nat) (A1 : Option Addr) (n1 c1 : Nat) (A2 : Option Addr) (n2 c2 : Nat) (A3 : Option Addr) (n3 c3 : Nat) (m : SM) (c : SF) (r : R4s) (hr : c.regs = r.l) (fuel at_ : Int) (hat : 0 ≤ at_ ∧ at_ ≤ 1048576) (call : CallS) (a b : Int) (kb : Nat) (hkb : kb < 4) (hB : b = kb) (hj : ¬ 0 < regAt r.l kb) :
    Calls Try.prog 117 #[mV (.slice A n c0) (.slice A1 n1 c1) (.slice A2 n2 c2) fuel m, fV c r (.slice A3 n3 c3), .int .i64 at_, .agg #[.int .i64 11, .int .i64 a, .int .i64 b]] w (MakeK S (.slice A n c0) (.slice A1 n1 c1) (.slice A2 n2 c2) (.slice A3 n3 c3) fuel (makeS call m c at_ ⟨11, a, b⟩) w) := by
  obtain ⟨sp, sh, mk, dp, t, sn⟩ := m
  obtain ⟨f, dep, rg, dfs, ki, va, lv, df, pg, pa, rc, ou⟩ := c
  simp only at hr
  subst hr
  subst hB
  have hbI : (kb : Int) < 4 := by omega
  have hw : IntKind.i64.wrap (at_ + 1) = at_ + 1 := IntWalk.i64_in _ (by omega)
  have HQ : Hd (makeS call (⟨sp, sh, mk, dp, t, sn⟩ : SM) (⟨f, dep, r.l, dfs, ki, va, lv, df, pg, pa, rc, ou⟩ : SF) at_ ⟨11, a, kb⟩ = ((⟨sp, sh, mk, dp, t, sn⟩ : SM), (⟨f, dep, r.l, dfs, ki, va, lv, df, pg, pa, rc, ou⟩ : SF), at_ + 1)) := ⟨by show (_, _, if regAt r.l kb > 0 then a else at_ + 1) = _; rw [if_neg hj]⟩
  have hget : #[Value.int .i64 f, .int .i64 dep, .int .i64 (r.a), .int .i64 (r.b), .int .i64 (r.c), .int .i64 (r.d), .slice A3 n3 c3, .int .i64 ki, .int .i64 va, .bool lv, .bool df, .bool pg, .int .i64 pa, .bool rc, .int .i64 ou][2 + kb]? = some (.int .i64 (regAt r.l kb)) := fr_get (by omega)
  go_enter Try.func117, Try.ntmps117
  go_wp2
  refine wp_region_T 6 (by kernel_rfl) (by kernel_rfl) (fun w' => w'.cell? ⟨w.heap.size, 0, none⟩ = some (.slice A n c0) ∧ w'.cell? ⟨w.heap.size, 1, none⟩ = some (.int .i64 fuel) ∧ w'.cell? ⟨w.heap.size, 2, none⟩ = some (.bool sp) ∧ w'.cell? ⟨w.heap.size, 3, none⟩ = some (.int .i64 sh) ∧ w'.cell? ⟨w.heap.size, 4, none⟩ = some (.int .i64 (mk : Int)) ∧ w'.cell? ⟨w.heap.size, 5, none⟩ = some (.int .i64 dp) ∧ w'.cell? ⟨w.heap.size, 6, none⟩ = some (.slice A1 n1 c1) ∧ w'.cell? ⟨w.heap.size, 7, none⟩ = some (.slice A2 n2 c2) ∧ w'.cell? ⟨w.heap.size + 1, 0, none⟩ = some (.int .i64 f) ∧ w'.cell? ⟨w.heap.size + 1, 1, none⟩ = some (.int .i64 dep) ∧ w'.cell? ⟨w.heap.size + 1, 2, none⟩ = some (.int .i64 (r.a)) ∧ w'.cell? ⟨w.heap.size + 1, 3, none⟩ = some (.int .i64 (r.b)) ∧ w'.cell? ⟨w.heap.size + 1, 4, none⟩ = some (.int .i64 (r.c)) ∧ w'.cell? ⟨w.heap.size + 1, 5, none⟩ = some (.int .i64 (r.d)) ∧ w'.cell? ⟨w.heap.size + 1, 6, none⟩ = some (.slice A3 n3 c3) ∧ w'.cell? ⟨w.heap.size + 1, 7, none⟩ = some (.int .i64 (ki)) ∧ w'.cell? ⟨w.heap.size + 1, 8, none⟩ = some (.int .i64 (va)) ∧ w'.cell? ⟨w.heap.size + 1, 9, none⟩ = some (.bool lv) ∧ w'.cell? ⟨w.heap.size + 1, 10, none⟩ = some (.bool df) ∧ w'.cell? ⟨w.heap.size + 1, 11, none⟩ = some (.bool pg) ∧ w'.cell? ⟨w.heap.size + 1, 12, none⟩ = some (.int .i64 pa) ∧ w'.cell? ⟨w.heap.size + 1, 13, none⟩ = some (.bool rc) ∧ w'.cell? ⟨w.heap.size + 1, 14, none⟩ = some (.int .i64 ou)) ⟨cb, cb, cb, cb, cb, cb, cb, cb, cb, cb, cb, cb, cb, cb, cb, cb, cb, cb, cb, cb, cb, cb, cb⟩ (fun hHeld => ?_)
  refine wpAnyT_takeL (i := 0) (v := ?_) rfl (by kernel_rfl) (by kernel_rfl) (by kernel_rfl) (by kernel_rfl) (by kernel_rfl) (fun _ _ _ h => h) (Or.inl ⟨by rfl, ?_⟩) (by assumption) ?_
  rotate_left
  · (intro w hSw; (try dsimp only at hSw); go_simp; try with_reducible rfl)
  try simp only [Act.put, List.setIfInBounds_toArray, List.set_cons_zero, List.set_cons_succ]
  refine wpAnyT_takeL (i := 1) (v := ?_) rfl (by kernel_rfl) (by kernel_rfl) (by kernel_rfl) (by kernel_rfl) (by kernel_rfl) (fun _ _ _ h => h) (Or.inl ⟨by rfl, ?_⟩) (by assumption) ?_
  rotate_left
  · (intro w hSw; (try dsimp only at hSw); go_simp; try with_reducible rfl)
  try simp only [Act.put, List.setIfInBounds_toArray, List.set_cons_zero, List.set_cons_succ]
  refine wpAnyT_takeL (i := 2) (v := ?_) rfl (by kernel_rfl) (by kernel_rfl) (by kernel_rfl) (by kernel_rfl) (by kernel_rfl) (fun _ _ _ h => h) (Or.inl ⟨by rfl, ?_⟩) (by assumption) ?_
  rotate_left
  · (intro w hSw; (try dsimp only at hSw); go_simp; try with_reducible rfl)
  try simp only [Act.put, List.setIfInBounds_toArray, List.set_cons_zero, List.set_cons_succ]
  refine wpAnyT_takeL (i := 3) (v := ?_) rfl (by kernel_rfl) (by kernel_rfl) (by kernel_rfl) (by kernel_rfl) (by kernel_rfl) (fun _ _ _ h => h) (Or.inl ⟨by rfl, ?_⟩) (by assumption) ?_
  rotate_left
  · (intro w hSw; (try dsimp only at hSw); go_simp; try with_reducible rfl)
  try simp only [Act.put, List.setIfInBounds_toArray, List.set_cons_zero, List.set_cons_succ]
  refine wpAnyT_one (i := 4) (by kernel_rfl) rfl (by kernel_rfl) (fun KK hKK => ?_)
  refine st_list rfl (ev_store rfl 121 _ _ rfl (w.heap.size + 1 + 1 + 1) #[Value.slice A n c0, .int .i64 fuel, .bool sp, .int .i64 sh, .int .i64 (mk : Int), .int .i64 dp, .slice A1 n1 c1, .slice A2 n2 c2] rfl rfl info_sm (by rfl) (by simp [Value.oneCell']) ?_)
  intro w8 HS8 HE8
  refine ⟨rfl, ?_⟩
  refine hKK.out _ _ ⟨cb, cb, cb, cb, cb, cb, cb, cb, cb, cb, cb, cb, cb, cb, cb, cb, cb, cb, cb, cb, cb, cb, cb⟩ (fun hHeld => ?_)
  clear hKK KK
  try simp only [Act.put, List.setIfInBounds_toArray, List.set_cons_zero, List.set_cons_succ]
  refine wpAnyT_one (i := 5) (by kernel_rfl) rfl (by kernel_rfl) (fun KK hKK => ?_)
  refine st_list rfl (ev_store rfl 123 _ _ rfl (w.heap.size + 1 + 1 + 1 + 1) #[Value.int .i64 f, .int .i64 dep, .int .i64 (r.a), .int .i64 (r.b), .int .i64 (r.c), .int .i64 (r.d), .slice A3 n3 c3, .int .i64 (ki), .int .i64 (va), .bool lv, .bool df, .bool pg, .int .i64 pa, .bool rc, .int .i64 ou] rfl rfl info_sf (by rfl) (by simp [Value.oneCell']) ?_)
  intro w9 HS9 HE9
  refine ⟨rfl, ?_⟩
  refine hKK.out _ _ ⟨cb, cb, cb, cb, cb, cb, cb, cb, cb, cb, cb, cb, cb, cb, cb, cb, cb, cb, cb, cb, cb, cb, cb⟩ (fun hHeld => ?_)
  clear hKK KK
  try simp only [Act.put, List.setIfInBounds_toArray, List.set_cons_zero, List.set_cons_succ]
  refine wpAnyT_done (by kernel_rfl) ?_
  go_wp2
  refine bodyPost_ret (v := .tuple #[mV (.slice A n c0) (.slice A1 n1 c1) (.slice A2 n2 c2) fuel (⟨sp, sh, mk, dp, t, sn⟩ : SM), fV (⟨f, dep, r.l, dfs, ki, va, lv, df, pg, pa, rc, ou⟩ : SF) r (.slice A3 n3 c3), .int .i64 (at_ + 1)]) (by simp [results, Try.results117, go_sem]) rfl ?_
  exact MakeK.of (m' := (⟨sp, sh, mk, dp, t, sn⟩ : SM)) (c' := (⟨f, dep, r.l, dfs, ki, va, lv, df, pg, pa, rc, ou⟩ : SF)) (at_ := at_ + 1) (r := r) HQ.out (rfl) (Post.mk' (Ent.sep (S := _) (T := S) inferInstance inferInstance) inferInstance)
end Go.Proofs.Ytobikkdnalnllaa
