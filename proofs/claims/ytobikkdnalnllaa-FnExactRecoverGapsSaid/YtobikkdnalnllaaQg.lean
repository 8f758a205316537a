/- The reference's machine: an inner call, whatever its end. Conditions: registers and numbers within bounds. -/
import Derived.Test.YtobikkdnalnllaaMx
import Derived.Test.YtobikkdnalnllaaMy
import Derived.Test.YtobikkdnalnllaaMz
import Derived.Test.YtobikkdnalnllaaMr
import Derived.Test.YtobikkdnalnllaaQf
import Derived.Test.YtobikkdnalnllaaMv
namespace Go.Proofs.Ytobikkdnalnllaa
open Go.RowKit SL
set_option linter.unusedVariables false
theorem spec_l2Inner (S : HP) (w : World) (A : Option Addr) (n c0 : Nat) (bs : List Bd) [rd : Rd S A (cBds bs)] [bd : Bodies S bs] (vt vs : Value) (A3 : Option Addr) (n3 c3 : Nat) (m : SM) (c : SF) (r : R4s) (hr : c.regs = r.l) [H0 : SepI w (Row 75 3 (vt) m.trace.length (cEvs m.trace) * (Row 112 2 (vs) m.seen.length (cPr m.seen) * S))] (fuel at_ : Int) (hat : 0 ≤ at_ ∧ at_ ≤ 1048576) (Pre : SM → SF → Prop) (call : CallS) (a : Int) (kb : Nat) (hkb : kb < 4) (hdep : 0 ≤ c.depth ∧ c.depth ≤ 1048576) (hcall : CallC A n c0 bs fuel (c.depth + 1) Pre call) (hpre : Pre m (freshIn c ⟨4, a, kb⟩)) :
    Calls Try.prog 132 #[mV (.slice A n c0) vt vs fuel m, fV c r (.slice A3 n3 c3), .int .i64 at_, .agg #[.int .i64 4, .int .i64 a, .int .i64 (kb : Int)]] w (InnerP S (.slice A n c0) (.slice A3 n3 c3) fuel (innerS call m c at_ ⟨4, a, kb⟩) w) := by
  by_cases h1 : (call m (freshIn c ⟨4, a, kb⟩)).2.kind = 1
  · exact spec_l2Inner1 S w A n c0 bs vt vs A3 n3 c3 m c r hr fuel at_ hat Pre call a kb hkb hdep hcall hpre h1
  by_cases h2 : (call m (freshIn c ⟨4, a, kb⟩)).2.kind = 2
  · cases hl : c.lv
    · exact spec_l2Inner2f S w A n c0 bs vt vs A3 n3 c3 m c r hr fuel at_ hat Pre call a kb hkb hdep hcall hpre h2 hl
    · exact spec_l2Inner2t S w A n c0 bs vt vs A3 n3 c3 m c r hr fuel at_ hat Pre call a kb hkb hdep hcall hpre h2 hl
  by_cases h3 : (call m (freshIn c ⟨4, a, kb⟩)).2.kind = 3
  · cases hl : c.lv
    · exact spec_l2Inner3f S w A n c0 bs vt vs A3 n3 c3 m c r hr fuel at_ hat Pre call a kb hkb hdep hcall hpre h3 hl
    · exact spec_l2Inner3t S w A n c0 bs vt vs A3 n3 c3 m c r hr fuel at_ hat Pre call a kb hkb hdep hcall hpre h3 hl
  · cases hl : c.lv
    · exact spec_l2Inner0f S w A n c0 bs vt vs A3 n3 c3 m c r hr fuel at_ hat Pre call a kb hkb hdep hcall hpre ⟨h1, h2, h3⟩ hl
    · exact spec_l2Inner0t S w A n c0 bs vt vs A3 n3 c3 m c r hr fuel at_ hat Pre call a kb hkb hdep hcall hpre ⟨h1, h2, h3⟩ hl
end Go.Proofs.Ytobikkdnalnllaa
namespace Go.Proofs.Ytobikkdnalnllaa
open Go.RowKit SL
attribute [local go_sem] cell_blk frozen_blk lt_blk cell_at frozen_row lt_row
set_option linter.unusedVariables false
set_option linter.unusedSimpArgs false
set_option maxRecDepth 100000 in
set_option maxHeartbeats 8000000 in
theorem spec_make4 (S : HP) (w : World) (A : Option Addr) (n c0 : Nat) (bs : List Bd) [rd : Rd S A (cBds bs)] [bd : Bodies S bs] (vt vs : Value) (A3 : Option Addr) (n3 c3 : Nat) (m : SM) (c : SF) (r : R4s) (hr : c.regs = r.l) [H0 : SepI w (Row 75 3 (vt) m.trace.length (cEvs m.trace) * (Row 112 2 (vs) m.seen.length (cPr m.seen) * S))] (fuel at_ : Int) (hat : 0 ≤ at_ ∧ at_ ≤ 1048576) (Pre : SM → SF → Prop) (call : CallS) (a : Int) (kb : Nat) (hkb : kb < 4) (hdep : 0 ≤ c.depth ∧ c.depth ≤ 1048576) (hcall : CallC A n c0 bs fuel (c.depth + 1) Pre call) (hpre : Pre m (freshIn c ⟨4, a, kb⟩)) :
    Calls Try.prog 117 #[mV (.slice A n c0) vt vs fuel m, fV c r (.slice A3 n3 c3), .int .i64 at_, .agg #[.int .i64 4, .int .i64 a, .int .i64 (kb : Int)]] w (InnerP S (.slice A n c0) (.slice A3 n3 c3) fuel (makeS call m c at_ ⟨4, a, kb⟩) w) := by
  obtain ⟨sp, sh, mk, dp, t, sn⟩ := m
  obtain ⟨f, dep, rg, dfs, ki, va, lv, df, pg, pa, rc, ou⟩ := c
  simp only at hr hdep hcall
  subst hr
  simp only at H0
  obtain ⟨A1, c1, rfl, hc1, hc1'⟩ := Row.form H0
  obtain ⟨A2, c2, rfl, hc2, hc2'⟩ := Row.form H0.right
  have HC1 := Hd.mk hc1
  have HC2 := Hd.mk hc2
  clear hc1 hc1' hc2 hc2'
  have hbI : (kb : Int) < 4 := by omega
  have hw : IntKind.i64.wrap (at_ + 1) = at_ + 1 := IntWalk.i64_in _ (by omega)
  have hwd : IntKind.i64.wrap (dep + 1) = dep + 1 := IntWalk.i64_in _ (by omega)
  have HCALL := Hd.mk hcall
  have HPRE := Hd.mk hpre
  have HDEP := Hd.mk hdep
  have HAT := Hd.mk hat
  obtain ⟨q, hq⟩ : ∃ q, innerS call (⟨sp, sh, mk, dp, t, sn⟩ : SM) (⟨f, dep, r.l, dfs, ki, va, lv, df, pg, pa, rc, ou⟩ : SF) at_ ⟨4, a, kb⟩ = q := ⟨_, rfl⟩
  have HQ0 : Hd (makeS call (⟨sp, sh, mk, dp, t, sn⟩ : SM) (⟨f, dep, r.l, dfs, ki, va, lv, df, pg, pa, rc, ou⟩ : SF) at_ ⟨4, a, kb⟩ = q) := ⟨by rw [← hq]; rfl⟩
  have HQ1 := Hd.mk hq
  clear hcall hpre hq hdep hat hwd hw
  go_enter Try.func117, Try.ntmps117
  go_wp2_with fail
  refine (@spec_l2Inner (pts (w.heap.size + 1 + 1 + 1 + 1) (.cells #[Value.int .i64 0, .int .i64 0, .int .i64 0, .int .i64 0, .int .i64 0, .int .i64 0, .slice none 0 0, .int .i64 0, .int .i64 0, .bool false, .bool false, .bool false, .int .i64 0, .bool false, .int .i64 0] 123 (0, 0)) * (pts (w.heap.size + 1 + 1 + 1) (.cells #[Value.slice none 0 0, .int .i64 0, .bool false, .int .i64 0, .int .i64 0, .int .i64 0, .slice none 0 0, .slice none 0 0] 121 (0, 0)) * (pts (w.heap.size + 1 + 1) (.cells #[.int .i64 4, .int .i64 a, .int .i64 (kb : Int)] 141 (0, 0)) * (pts (w.heap.size + 1) (.cells #[Value.int .i64 f, .int .i64 dep, .int .i64 (r.a), .int .i64 (r.b), .int .i64 (r.c), .int .i64 (r.d), .slice A3 n3 c3, .int .i64 (ki), .int .i64 (va), .bool lv, .bool df, .bool pg, .int .i64 pa, .bool rc, .int .i64 ou] 123 (0, 0)) * (pts w.heap.size (.cells #[Value.slice A n c0, .int .i64 fuel, .bool sp, .int .i64 sh, .int .i64 (mk : Int), .int .i64 dp, .slice A1 t.length c1, .slice A2 sn.length c2] 121 (0, 0)) * S))))) _ A n c0 bs inferInstance inferInstance (.slice A1 t.length c1) (.slice A2 sn.length c2) A3 n3 c3 (⟨sp, sh, mk, dp, t, sn⟩ : SM) (⟨f, dep, r.l, dfs, ki, va, lv, df, pg, pa, rc, ou⟩ : SF) r rfl (SepI.cast (S := _) inferInstance (by ac_rfl)) fuel at_ HAT.out Pre call a kb hkb HDEP.out HCALL.out HPRE.out).mono ?_
  rintro e w4 ⟨vt4, vs4, r', rfl, hr', HP⟩
  rw [HQ1.out] at hr' HP ⊢
  obtain ⟨⟨sp', sh', mk', dp', t', sn'⟩, ⟨f', dep', rg', dfs', ki', va', lv', df', pg', pa', rc', ou'⟩, at'⟩ := q
  simp only at hr' HP
  subst hr'
  have HQ := HQ0
  have HS4 := HP.sep
  have HE4 := HP.ext
  clear HP HCALL HPRE HQ0 HQ1
  obtain ⟨A4, c4, rfl, hc4, hc4'⟩ := Row.form HS4
  obtain ⟨A5, c5, rfl, hc5, hc5'⟩ := Row.form HS4.right
  clear hc4 hc4' hc5 hc5'
  simp only []
  rename_i hK
  refine hK _ _ ?_
  refine ev_val rfl _ rfl ?_
  refine ev_val rfl _ rfl ?_
  refine ev_val rfl _ rfl ?_
  refine ev_store rfl 121 _ _ rfl (w.heap.size + 1 + 1 + 1) #[Value.slice A n c0, .int .i64 fuel, .bool sp', .int .i64 sh', .int .i64 (mk' : Int), .int .i64 dp', .slice A4 t'.length c4, .slice A5 sn'.length c5] rfl rfl info_sm (by rfl) (by simp [Value.oneCell']) ?_
  intro w5 HS5 HE5
  refine ev_store rfl 123 _ _ rfl (w.heap.size + 1 + 1 + 1 + 1) #[Value.int .i64 f', .int .i64 dep', .int .i64 r'.a, .int .i64 r'.b, .int .i64 r'.c, .int .i64 r'.d, .slice A3 n3 c3, .int .i64 ki', .int .i64 va', .bool lv', .bool df', .bool pg', .int .i64 pa', .bool rc', .int .i64 ou'] rfl rfl info_sf (by rfl) (by simp [Value.oneCell']) ?_
  intro w6 HS6 HE6
  go_wp2
  refine bodyPost_ret (v := .tuple #[mV (.slice A n c0) (.slice A4 t'.length c4) (.slice A5 sn'.length c5) fuel (⟨sp', sh', mk', dp', t', sn'⟩ : SM), fV (⟨f', dep', r'.l, dfs', ki', va', lv', df', pg', pa', rc', ou'⟩ : SF) r' (.slice A3 n3 c3), .int .i64 at']) (by simp [results, Try.results117, go_sem]) rfl ?_
  exact InnerP.of (m' := (⟨sp', sh', mk', dp', t', sn'⟩ : SM)) (c' := (⟨f', dep', r'.l, dfs', ki', va', lv', df', pg', pa', rc', ou'⟩ : SF)) (at_ := at') (r := r') (vt := .slice A4 t'.length c4) (vs := .slice A5 sn'.length c5) HQ.out rfl (Post.mk' (Ent.sep (S := _) (T := Row 75 3 (.slice A4 t'.length c4) t'.length (cEvs t') * (Row 112 2 (.slice A5 sn'.length c5) sn'.length (cPr sn') * S)) inferInstance inferInstance) inferInstance)
end Go.Proofs.Ytobikkdnalnllaa
namespace Go.Proofs.Ytobikkdnalnllaa
open Go.RowKit SL
set_option linter.unusedVariables false
set_option linter.unusedSimpArgs false
/-- What a step of the reference hands back, with all rows. -/
def MakeS (S : HP) (P : Value) (fuel : Int) (q : SM × SF × Int) (w : World) (e : Ending) (w' : World) : Prop := ∃ vt vs vd r, e = .returned (.tuple #[mV P vt vs fuel q.1, fV q.2.1 r vd, .int .i64 q.2.2]) ∧ q.2.1.regs = r.l ∧ Post w (Row 75 3 (vt) q.1.trace.length (cEvs q.1.trace) * (Row 112 2 (vs) q.1.seen.length (cPr q.1.seen) * (Row 112 2 (vd) q.2.1.defers.length (cPr q.2.1.defers) * S))) w'
theorem simple_keeps (m : SM) (c : SF) (s : St) : (simpleS m c s).1.seen = m.seen ∧ (simpleS m c s).2.defers = c.defers := by
  unfold simpleS
  repeat' split
  all_goals exact ⟨rfl, rfl⟩
theorem make_seen (call : CallS) (m : SM) (c : SF) (at_ : Int) (s : St) (h : s.k ≠ 4) : (makeS call m c at_ s).1.seen = m.seen := by
  unfold makeS
  rw [if_neg h]
  repeat' split
  all_goals first | rfl | exact (simple_keeps m c s).1
theorem make_defers (call : CallS) (m : SM) (c : SF) (at_ : Int) (s : St) (h : s.k ≠ 5) : (makeS call m c at_ s).2.1.defers = c.defers := by
  unfold makeS
  by_cases h4 : s.k = 4
  · rw [if_pos h4]
    unfold innerS innerR
    repeat' split
    all_goals rfl
  rw [if_neg h4, if_neg h]
  repeat' split
  all_goals first | rfl | exact (simple_keeps m c s).2
/-- What a step of a valid program keeps to. -/
structure StepG (r : R4s) (s : St) : Prop where
  k : 1 ≤ s.k ∧ s.k ≤ 13
  a : s.k = 1 ∨ s.k = 2 ∨ s.k = 3 ∨ s.k = 6 ∨ s.k = 7 ∨ s.k = 8 ∨ s.k = 9 ∨ s.k = 12 ∨ s.k = 13 → Reg s.a
  b : s.k = 2 ∨ s.k = 4 ∨ s.k = 5 ∨ s.k = 11 → Reg s.b
  n : ∀ i : Nat, i < 4 → -32768 ≤ regAt r.l i ∧ regAt r.l i ≤ 32767
theorem spec_l2Make (S : HP) (w : World) (A : Option Addr) (n c0 : Nat) (bs : List Bd) [rd : Rd S A (cBds bs)] [bd : Bodies S bs] (vt vs vd : Value) (m : SM) (c : SF) (r : R4s) (hr : c.regs = r.l)
    [H0 : SepI w (Row 75 3 (vt) m.trace.length (cEvs m.trace) * (Row 112 2 (vs) m.seen.length (cPr m.seen) * (Row 112 2 (vd) c.defers.length (cPr c.defers) * S)))] (ht : m.trace.length ≤ 1048576) (hd : c.defers.length ≤ 1048576) (fuel at_ : Int) (hat : 0 ≤ at_ ∧ at_ ≤ 1048576) (Pre : SM → SF → Prop) (call : CallS) (s : St) (hs : StepG r s)
    (hdep : 0 ≤ c.depth ∧ c.depth ≤ 1048576) (hcall : CallC A n c0 bs fuel (c.depth + 1) Pre call) (hpre : s.k = 4 → Pre m (freshIn c s)) :
    Calls Try.prog 117 #[mV (.slice A n c0) vt vs fuel m, fV c r vd, .int .i64 at_, .agg #[.int .i64 s.k, .int .i64 s.a, .int .i64 s.b]] w (MakeS S (.slice A n c0) fuel (makeS call m c at_ s) w) := by
  obtain ⟨A1, c1, rfl, _, _⟩ := Row.form H0
  obtain ⟨A2, c2, rfl, _, _⟩ := Row.form H0.right
  obtain ⟨A3, c3, rfl, _, _⟩ := Row.form H0.right.right
  obtain ⟨k, a, b⟩ := s
  have hk := hs.k
  have ha := hs.a
  have hb := hs.b
  simp only at hk ha hb hpre ⊢
  have keepK : ∀ {k : Int}, k ≠ 4 → k ≠ 5 → (makeS call m c at_ ⟨k, a, b⟩).1.trace = m.trace → ∀ e w', MakeK (Row 75 3 (.slice A1 m.trace.length c1) m.trace.length (cEvs m.trace) * (Row 112 2 (.slice A2 m.seen.length c2) m.seen.length (cPr m.seen) * (Row 112 2 (.slice A3 c.defers.length c3) c.defers.length (cPr c.defers) * S))) (.slice A n c0) (.slice A1 m.trace.length c1) (.slice A2 m.seen.length c2) (.slice A3 c.defers.length c3) fuel (makeS call m c at_ ⟨k, a, b⟩) w e w' → MakeS S (.slice A n c0) fuel (makeS call m c at_ ⟨k, a, b⟩) w e w' := by
    intro k h4 h5 htr e w' ⟨r', he, hr', hp⟩
    refine ⟨_, _, _, r', he, hr', ?_⟩
    rw [htr, make_seen call m c at_ ⟨k, a, b⟩ h4, make_defers call m c at_ ⟨k, a, b⟩ h5]
    exact hp
  have keepT : ∀ {k : Int}, k ≠ 4 → k ≠ 5 → ∀ e w', MakeT (Row 112 2 (.slice A2 m.seen.length c2) m.seen.length (cPr m.seen) * (Row 112 2 (.slice A3 c.defers.length c3) c.defers.length (cPr c.defers) * S)) (.slice A n c0) (.slice A2 m.seen.length c2) (.slice A3 c.defers.length c3) fuel (makeS call m c at_ ⟨k, a, b⟩) w e w' → MakeS S (.slice A n c0) fuel (makeS call m c at_ ⟨k, a, b⟩) w e w' := by
    intro k h4 h5 e w' ⟨vt', r', he, hr', hp⟩
    refine ⟨_, _, _, r', he, hr', ?_⟩
    rw [make_seen call m c at_ ⟨k, a, b⟩ h4, make_defers call m c at_ ⟨k, a, b⟩ h5]
    exact hp
  by_cases h4 : k = 4
  · subst h4
    obtain ⟨kb, hkb, rfl⟩ := hb (by simp)
    refine (@spec_make4 (Row 112 2 (.slice A3 c.defers.length c3) c.defers.length (cPr c.defers) * S) w A n c0 bs inferInstance inferInstance _ _ A3 c.defers.length c3 m c r hr H0 fuel at_ hat Pre call a kb hkb hdep hcall (hpre rfl)).mono ?_
    rintro e w' ⟨vt', vs', r', he, hr', hp⟩
    refine ⟨vt', vs', _, r', he, hr', ?_⟩
    rw [make_defers call m c at_ ⟨4, a, kb⟩ (by show (4 : Int) ≠ 5; omega)]
    exact hp
  by_cases h5 : k = 5
  · subst h5
    obtain ⟨kb, hkb, rfl⟩ := hb (by simp)
    refine (@spec_make5 (Row 112 2 (.slice A2 m.seen.length c2) m.seen.length (cPr m.seen) * S) w A n c0 _ A2 m.seen.length c2 _ m c r hr (SepI.cast H0 (by ac_rfl)) ht hd fuel at_ hat call a kb hkb).mono ?_
    rintro e w' ⟨vt', vd', r', he, hr', hp⟩
    refine ⟨vt', _, vd', r', he, hr', ?_⟩
    rw [make_seen call m c at_ ⟨5, a, kb⟩ (by show (5 : Int) ≠ 4; omega)]
    exact ⟨SepI.cast hp.sep (by ac_rfl), hp.ext⟩
  by_cases h6 : k = 6
  · subst h6
    obtain ⟨ka, hka, rfl⟩ := ha (by simp)
    exact (@spec_make6 _ w A n c0 _ A2 m.seen.length c2 A3 c.defers.length c3 m c r hr H0 ht fuel at_ hat call ka hka b).mono (keepT (by omega) (by omega))
  by_cases h8 : k = 8
  · subst h8
    obtain ⟨ka, hka, rfl⟩ := ha (by simp)
    exact (@spec_make8 _ w H0 A n c0 A1 m.trace.length c1 A2 m.seen.length c2 A3 c.defers.length c3 m c r hr fuel at_ hat call ka b ka hka rfl).mono (keepK (by omega) (by omega) rfl)
  by_cases h10 : k = 10
  · subst h10
    exact (@spec_make10 _ w H0 A n c0 A1 m.trace.length c1 A2 m.seen.length c2 A3 c.defers.length c3 m c r hr fuel at_ hat call a b).mono (keepK (by omega) (by omega) rfl)
  by_cases h11 : k = 11
  · subst h11
    obtain ⟨kb, hkb, rfl⟩ := hb (by simp)
    by_cases hj : 0 < regAt r.l kb
    · exact (@spec_make11y _ w H0 A n c0 A1 m.trace.length c1 A2 m.seen.length c2 A3 c.defers.length c3 m c r hr fuel at_ hat call a kb kb hkb rfl hj).mono (keepK (by omega) (by omega) rfl)
    · exact (@spec_make11n _ w H0 A n c0 A1 m.trace.length c1 A2 m.seen.length c2 A3 c.defers.length c3 m c r hr fuel at_ hat call a kb kb hkb rfl hj).mono (keepK (by omega) (by omega) rfl)
  · exact (@spec_makeD _ w A n c0 _ A2 m.seen.length c2 A3 c.defers.length c3 m c r hr H0 ht fuel at_ hat call k a b (by omega) (ha (by omega)) (fun h => hb (.inl h)) hs.n).mono (keepT h4 h5)
end Go.Proofs.Ytobikkdnalnllaa
