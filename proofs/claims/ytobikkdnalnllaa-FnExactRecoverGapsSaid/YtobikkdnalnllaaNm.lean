/- The reference's machine: the last of the deferred calls. Conditions: registers and numbers within bounds. -/
import Derived.Test.YtobikkdnalnllaaQc
import Derived.Test.YtobikkdnalnllaaQb
namespace Go.Proofs.Ytobikkdnalnllaa
open Go.RowKit SL
attribute [local go_sem] cell_blk frozen_blk lt_blk cell_at frozen_row lt_row
set_option linter.unusedVariables false
set_option linter.unusedSimpArgs false

theorem SL.Rd.take {S : HP} {A : Option Addr} {cs : List Value} (i : Rd S A cs) (k : Nat) : Rd S A (cs.take k) := ⟨fun w H => by
  rcases i.out w H with h | ⟨b, off, hA, hb, hc⟩
  · left; rw [h]; exact List.take_nil
  · right
    refine ⟨b, off, hA, hb, fun j v hj => hc j v ?_⟩
    rw [List.getElem?_take] at hj
    split at hj
    · exact hj
    · cases hj⟩
theorem cPr_take (l : List (Int × Int)) (k : Nat) : cPr (l.take k) = (cPr l).take (k * 2) := by
  induction l generalizing k with
  | nil => simp [cPr]
  | cons x l ih =>
    cases k with
    | zero => simp [cPr]
    | succ k =>
      have : cPr ((x :: l).take (k + 1)) = .int .i64 x.1 :: .int .i64 x.2 :: cPr (l.take k) := rfl
      rw [this, ih]
      show _ = (Value.int .i64 x.1 :: Value.int .i64 x.2 :: cPr l).take _
      rw [show (k + 1) * 2 = k * 2 + 1 + 1 from by omega]
      rfl
/-- What the last deferred call's end makes of the call that ran it. -/
def lastR (r : SM × SF) (c1 : SF) : SM × SF :=
  if r.1.spent then (r.1, c1)
  else
    let c2 : SF := { c1 with regs := regSet c1.regs 1 r.2.outer, lv := c1.lv || r.2.lv }
    let c3 : SF := if r.2.rc then { c2 with kind := if c2.lv then 3 else 1 } else c2
    let c4 : SF := if r.2.kind = 2 then { c3 with kind := 2, value := r.2.value } else c3
    (r.1, if r.2.kind = 3 then { c4 with kind := 3 } else c4)
theorem last_at {dfs : List (Int × Int)} {k : Nat} {x : Int × Int} (hk : dfs.length = k + 1) (hx : dfs[k]? = some x) : dfs.length - 1 = k ∧ dfs.getD (dfs.length - 1) (0, 0) = x := by
  have : dfs.length - 1 = k := by omega
  exact ⟨this, by rw [this, List.getD_eq_getElem?_getD, hx]; rfl⟩
theorem lastR_eq {f dep va pa ou ki : Int} {r : R4s} {D : List (Int × Int)} {lv df pg rc lvv : Bool} {sh' dp' f' dep' ki' va' pa' ou' K2 K3 V3 K4 : Int} {mk' : Nat} {t' : List Ev} {sn' dfs' : List (Int × Int)} {r' : R4s} {lv' df' pg' rc' : Bool}
    (h1 : lvv = (lv || lv')) (h2 : K2 = if rc' then (if lvv then 3 else 1) else ki) (h3 : K3 = if ki' = 2 then 2 else K2) (h4 : V3 = if ki' = 2 then va' else va) (h5 : K4 = if ki' = 3 then 3 else K3) :
    lastR ((⟨false, sh', mk', dp', t', sn'⟩ : SM), (⟨f', dep', r'.l, dfs', ki', va', lv', df', pg', pa', rc', ou'⟩ : SF)) (⟨f, dep, r.l, D, ki, va, lv, df, pg, pa, rc, ou⟩ : SF) = ((⟨false, sh', mk', dp', t', sn'⟩ : SM), (⟨f, dep, regSet r.l 1 ou', D, K4, V3, lvv, df, pg, pa, rc, ou⟩ : SF)) := by
  unfold lastR
  simp only [Bool.false_eq_true, if_false]
  by_cases k2 : ki' = 2
  · subst k2
    rw [if_pos rfl] at h3 h4
    rw [if_neg (by omega)] at h5
    simp only [if_true]
    rw [if_neg (by omega)]
    subst h5 h3 h4 h2 h1
    cases rc' <;> rfl
  · rw [if_neg k2] at h3 h4
    rw [if_neg k2]
    by_cases k3 : ki' = 3
    · rw [if_pos k3] at h5
      rw [if_pos k3]
      subst h5 h3 h4 h2 h1
      cases rc' <;> rfl
    · rw [if_neg k3] at h5
      rw [if_neg k3]
      subst h5 h3 h4 h2 h1
      cases rc' <;> rfl
theorem CallP.of {S : HP} {P vt vs vd : Value} {fuel : Int} {q : SM × SF} {w w' : World} {m' : SM} {c' : SF} {r : R4s} {k : Nat} (hq : q = (m', c')) (hr : c'.regs = r.l) (hk : c'.defers.length = k) (hp : Post w (Row 75 3 (vt) m'.trace.length (cEvs m'.trace) * (Row 112 2 (vs) m'.seen.length (cPr m'.seen) * (Row 112 2 (vd) k (cPr c'.defers) * S))) w') : CallP S P fuel q w (.returned (.tuple #[mV P vt vs fuel m', fV c' r vd])) w' := by
  subst hq
  subst hk
  exact ⟨vt, vs, vd, r, rfl, hr, hp⟩
theorem freshLast_eq {f dep va pa ou P2 : Int} {r : R4s} {dfs : List (Int × Int)} {ki : Int} {lv df pg rc pgB : Bool} {k : Nat} {x : Int × Int} (hk : dfs.length = k + 1) (hx : dfs[k]? = some x) (hb : pgB = (ki == 2)) (hp : P2 = if ki = 2 then va else 0) :
    freshLast (⟨f, dep, r.l, dfs, ki, va, lv, df, pg, pa, rc, ou⟩ : SF) = (⟨x.1, dep + 1, (⟨x.2, 0, 0, 0⟩ : R4s).l, [], 0, 0, false, true, pgB, P2, false, r.b⟩ : SF) := by
  unfold freshLast
  simp only
  rw [(last_at hk hx).2, hb, hp]
  rfl
theorem lastS_eq (call : CallS) {m : SM} {f dep va pa ou P2 : Int} {r : R4s} {dfs D : List (Int × Int)} {ki : Int} {lv df pg rc pgB : Bool} {k : Nat} {x : Int × Int} (hk : dfs.length = k + 1) (hx : dfs[k]? = some x) (hD : D = dfs.take k) (hb : pgB = (ki == 2)) (hp : P2 = if ki = 2 then va else 0) :
    lastS call m (⟨f, dep, r.l, dfs, ki, va, lv, df, pg, pa, rc, ou⟩ : SF) = lastR (call m (⟨x.1, dep + 1, (⟨x.2, 0, 0, 0⟩ : R4s).l, [], 0, 0, false, true, pgB, P2, false, r.b⟩ : SF)) (⟨f, dep, r.l, D, ki, va, lv, df, pg, pa, rc, ou⟩ : SF) := by
  unfold lastS lastR
  simp only
  rw [(last_at hk hx).2, (last_at hk hx).1, ← hb, ← hp, hD]
  rfl
set_option maxRecDepth 100000 in
set_option maxHeartbeats 8000000 in
theorem spec_l2Last (S : HP) (w : World) (A : Option Addr) (n c0 : Nat) (bs : List Bd) [rd : Rd S A (cBds bs)] [bd : Bodies S bs] (vt vs vd : Value) (m : SM) (c : SF) (r : R4s) (hr : c.regs = r.l) (k : Nat) (hk : c.defers.length = k + 1)
    [H0 : SepI w (Row 75 3 (vt) m.trace.length (cEvs m.trace) * (Row 112 2 (vs) m.seen.length (cPr m.seen) * (Row 112 2 (vd) c.defers.length (cPr c.defers) * S)))] (hd : c.defers.length ≤ 1048576) (fuel : Int) (Pre : SM → SF → Prop) (call : CallS) (hdep : 0 ≤ c.depth ∧ c.depth ≤ 1048576) (hcall : CallC A n c0 bs fuel (c.depth + 1) Pre call) (hpre : Pre m (freshLast c)) :
    Calls Try.prog 118 #[mV (.slice A n c0) vt vs fuel m, fV c r vd] w (CallP S (.slice A n c0) fuel (lastS call m c) w) := by
  obtain ⟨sp, sh, mk, dp, t, sn⟩ := m
  obtain ⟨f, dep, rg, dfs, ki, va, lv, df, pg, pa, rc, ou⟩ := c
  simp only at hr hdep hcall hk hd
  subst hr
  simp only at H0
  obtain ⟨A1, c1, rfl, hc1, hc1'⟩ := Row.form H0
  obtain ⟨A2, c2, rfl, hc2, hc2'⟩ := Row.form H0.right
  obtain ⟨A3, c3, rfl, hc3, hc3'⟩ := Row.form H0.right.right
  have HA3 := Hd.mk (Row.none_nil H0.right.right)
  have HC1 := Hd.mk hc1
  have HC2 := Hd.mk hc2
  clear hc1 hc1' hc2 hc2' hc3'
  obtain ⟨x, hx⟩ := get_ex (xs := dfs) (k := k) (by omega)
  have rd3 : Rd (Row 75 3 ((.slice A1 t.length c1)) t.length (cEvs t) * (Row 112 2 ((.slice A2 sn.length c2)) sn.length (cPr sn) * (Row 112 2 (.slice A3 dfs.length c3) dfs.length (cPr dfs) * S))) A3 (cPr dfs) := inferInstance
  obtain ⟨b0, off, rfl⟩ := rd3.addr H0 (j := k * 2) (by rw [cPr_len]; omega)
  have gx := cPr_get hx
  have e1 : CellAt (Row 75 3 ((.slice A1 t.length c1)) t.length (cEvs t) * (Row 112 2 ((.slice A2 sn.length c2)) sn.length (cPr sn) * (Row 112 2 (.slice (some ⟨b0, off, none⟩) dfs.length c3) dfs.length (cPr dfs) * S))) b0 (off + k * 2) (.int .i64 x.1) := rd3.cell gx.1
  have e2 : CellAt (Row 75 3 ((.slice A1 t.length c1)) t.length (cEvs t) * (Row 112 2 ((.slice A2 sn.length c2)) sn.length (cPr sn) * (Row 112 2 (.slice (some ⟨b0, off, none⟩) dfs.length c3) dfs.length (cPr dfs) * S))) b0 (off + (k * 2 + 1)) (.int .i64 x.2) := rd3.cell gx.2
  rw [← Nat.add_assoc] at e2
  have rd4 := rd3.take (k * 2)
  rw [← cPr_take] at rd4
  clear rd3
  rw [hk] at hc3 HA3 H0 e1 e2 hd rd4 ⊢
  have hwk : IntKind.i64.wrap (((k + 1 : Nat) : Int) - 1) = (k : Int) := by rw [show ((k + 1 : Nat) : Int) - 1 = (k : Int) from by omega]; exact IntWalk.i64_in _ (by omega)
  have hwd : IntKind.i64.wrap (dep + 1) = dep + 1 := IntWalk.i64_in _ (by omega)
  have HK := Hd.mk hk
  have HX := Hd.mk hx
  have HCALL := Hd.mk hcall
  have HPRE := Hd.mk hpre
  clear hcall hpre hk hx gx
  obtain ⟨D, HD⟩ : ∃ D, Hd (D = dfs.take k) := ⟨_, ⟨rfl⟩⟩
  have HDL : Hd (D.length = k) := ⟨by rw [HD.out, List.length_take, HK.out]; omega⟩
  rw [← HD.out] at rd4
  obtain ⟨pgB, HPG⟩ : ∃ b, Hd (b = (ki == 2)) := ⟨_, ⟨rfl⟩⟩
  obtain ⟨P2, HP2⟩ : ∃ z : Int, Hd (z = if ki = 2 then va else 0) := ⟨_, ⟨rfl⟩⟩
  have HQ0 : Hd (lastS call (⟨sp, sh, mk, dp, t, sn⟩ : SM) (⟨f, dep, r.l, dfs, ki, va, lv, df, pg, pa, rc, ou⟩ : SF) = lastR (call (⟨sp, sh, mk, dp, t, sn⟩ : SM) (⟨x.1, dep + 1, (⟨x.2, 0, 0, 0⟩ : R4s).l, [], 0, 0, false, true, pgB, P2, false, r.b⟩ : SF)) (⟨f, dep, r.l, D, ki, va, lv, df, pg, pa, rc, ou⟩ : SF)) := ⟨lastS_eq call (k := k) HK.out HX.out HD.out HPG.out HP2.out⟩
  have HPR2 : Hd (Pre (⟨sp, sh, mk, dp, t, sn⟩ : SM) (⟨x.1, dep + 1, (⟨x.2, 0, 0, 0⟩ : R4s).l, [], 0, 0, false, true, pgB, P2, false, r.b⟩ : SF)) := ⟨by have h := HPRE.out; rw [freshLast_eq (k := k) HK.out HX.out HPG.out HP2.out] at h; exact h⟩
  clear HPRE
  go_enter Try.func118, Try.ntmps118
  go_upto_if 39 with (at_builtin; go_must (refine ev_appendR (H := Row.lit0 (size := 2) (SepI.pick (A := pts (w.heap.size + 1 + 1 + 1 + 1 + 1) (.cells #[] 112 (0, 0))) inferInstance inferInstance)) (v := .slice (some ⟨w.heap.size + 1 + 1 + 1 + 1 + 1, 0, none⟩) 0 0) rfl _ _ 51 rfl rfl 16 _ Try.underlying51 info_pr rfl (by decide) (by decide) (some ⟨b0, off, none⟩) k c3 rfl (news := cPr D) (fun h => by cases h) (by rw [cPr_len, HDL.out]) (cPr_one _) (by omega) ?_); rw [Nat.zero_add, List.nil_append]; intro v5 w5 HS5 HE5; obtain ⟨A5, c5, rfl, hc5, hc5'⟩ := Row.form HS5)
  go_cut [8] (fun v8 wx => v8 = .pointer (some ⟨w5.heap.size, 0, none⟩) ∧ ExtI w wx ∧ SepI wx (pts (w5.heap.size) (.cells #[Value.int .i64 x.1, .int .i64 (dep + 1), .int .i64 x.2, .int .i64 0, .int .i64 0, .int .i64 0, .slice none 0 0, .int .i64 0, .int .i64 0, .bool false, .bool true, .bool pgB, .int .i64 P2, .bool false, .int .i64 r.b] 123 (0, 0)) * (pts (w.heap.size + 1 + 1 + 1) (.cells #[Value.int .i64 0, .int .i64 0, .int .i64 0, .int .i64 0, .int .i64 0, .int .i64 0, .slice none 0 0, .int .i64 0, .int .i64 0, .bool false, .bool false, .bool false, .int .i64 0, .bool false, .int .i64 0] 123 (0, 0)) * (pts (w.heap.size + 1 + 1) (.cells #[Value.slice none 0 0, .int .i64 0, .bool false, .int .i64 0, .int .i64 0, .int .i64 0, .slice none 0 0, .slice none 0 0] 121 (0, 0)) * (pts (w.heap.size + 1) (.cells #[Value.int .i64 f, .int .i64 dep, .int .i64 (r.a), .int .i64 (r.b), .int .i64 (r.c), .int .i64 (r.d), .slice A5 k c5, .int .i64 (ki), .int .i64 (va), .bool lv, .bool df, .bool pg, .int .i64 pa, .bool rc, .int .i64 ou] 123 (0, 0)) * (pts (w.heap.size) (.cells #[Value.slice A n c0, .int .i64 fuel, .bool sp, .int .i64 sh, .int .i64 (mk : Int), .int .i64 dp, .slice A1 t.length c1, .slice A2 sn.length c2] 121 (0, 0)) * (Row 112 2 (.slice A5 k c5) k (cPr D) * (Row 75 3 (.slice A1 t.length c1) t.length (cEvs t) * (Row 112 2 (.slice A2 sn.length c2) sn.length (cPr sn) * (S))))))))))
  case first =>
    by_cases hki : ki = 2
    · subst hki
      obtain rfl : pgB = true := by rw [HPG.out]; rfl
      obtain rfl : P2 = va := by rw [HP2.out]; rfl
      go_wp2
      go_meet
      exact ⟨rfl, inferInstance, Ent.sep (S := _) (T := pts (w5.heap.size) (.cells #[Value.int .i64 x.1, .int .i64 (dep + 1), .int .i64 x.2, .int .i64 0, .int .i64 0, .int .i64 0, .slice none 0 0, .int .i64 0, .int .i64 0, .bool false, .bool true, .bool true, .int .i64 P2, .bool false, .int .i64 r.b] 123 (0, 0)) * (pts (w.heap.size + 1 + 1 + 1) (.cells #[Value.int .i64 0, .int .i64 0, .int .i64 0, .int .i64 0, .int .i64 0, .int .i64 0, .slice none 0 0, .int .i64 0, .int .i64 0, .bool false, .bool false, .bool false, .int .i64 0, .bool false, .int .i64 0] 123 (0, 0)) * (pts (w.heap.size + 1 + 1) (.cells #[Value.slice none 0 0, .int .i64 0, .bool false, .int .i64 0, .int .i64 0, .int .i64 0, .slice none 0 0, .slice none 0 0] 121 (0, 0)) * (pts (w.heap.size + 1) (.cells (#[Value.int .i64 f, .int .i64 dep, .int .i64 (r.a), .int .i64 (r.b), .int .i64 (r.c), .int .i64 (r.d), .slice (some ⟨b0, off, none⟩) (k + 1) c3, .int .i64 (2), .int .i64 (P2), .bool lv, .bool df, .bool pg, .int .i64 pa, .bool rc, .int .i64 ou].setIfInBounds 6 (.slice A5 k c5)) 123 (0, 0)) * (pts (w.heap.size) (.cells #[Value.slice A n c0, .int .i64 fuel, .bool sp, .int .i64 sh, .int .i64 (mk : Int), .int .i64 dp, .slice A1 t.length c1, .slice A2 sn.length c2] 121 (0, 0)) * (Row 112 2 (.slice A5 k c5) k (cPr D) * (Row 75 3 (.slice A1 t.length c1) t.length (cEvs t) * (Row 112 2 (.slice A2 sn.length c2) sn.length (cPr sn) * (S))))))))) inferInstance inferInstance⟩
    · have k2 : (ki == 2) = false := beq_eq_false_iff_ne.2 hki
      obtain rfl : pgB = false := by rw [HPG.out]; exact k2
      obtain rfl : P2 = 0 := by rw [HP2.out, if_neg hki]
      clear hki
      go_wp2
      go_meet
      exact ⟨rfl, inferInstance, Ent.sep (S := _) (T := pts (w5.heap.size) (.cells #[Value.int .i64 x.1, .int .i64 (dep + 1), .int .i64 x.2, .int .i64 0, .int .i64 0, .int .i64 0, .slice none 0 0, .int .i64 0, .int .i64 0, .bool false, .bool true, .bool false, .int .i64 0, .bool false, .int .i64 r.b] 123 (0, 0)) * (pts (w.heap.size + 1 + 1 + 1) (.cells #[Value.int .i64 0, .int .i64 0, .int .i64 0, .int .i64 0, .int .i64 0, .int .i64 0, .slice none 0 0, .int .i64 0, .int .i64 0, .bool false, .bool false, .bool false, .int .i64 0, .bool false, .int .i64 0] 123 (0, 0)) * (pts (w.heap.size + 1 + 1) (.cells #[Value.slice none 0 0, .int .i64 0, .bool false, .int .i64 0, .int .i64 0, .int .i64 0, .slice none 0 0, .slice none 0 0] 121 (0, 0)) * (pts (w.heap.size + 1) (.cells (#[Value.int .i64 f, .int .i64 dep, .int .i64 (r.a), .int .i64 (r.b), .int .i64 (r.c), .int .i64 (r.d), .slice (some ⟨b0, off, none⟩) (k + 1) c3, .int .i64 (ki), .int .i64 (va), .bool lv, .bool df, .bool pg, .int .i64 pa, .bool rc, .int .i64 ou].setIfInBounds 6 (.slice A5 k c5)) 123 (0, 0)) * (pts (w.heap.size) (.cells #[Value.slice A n c0, .int .i64 fuel, .bool sp, .int .i64 sh, .int .i64 (mk : Int), .int .i64 dp, .slice A1 t.length c1, .slice A2 sn.length c2] 121 (0, 0)) * (Row 112 2 (.slice A5 k c5) k (cPr D) * (Row 75 3 (.slice A1 t.length c1) t.length (cEvs t) * (Row 112 2 (.slice A2 sn.length c2) sn.length (cPr sn) * (S))))))))) inferInstance inferInstance⟩
  case rest =>
  obtain ⟨rfl, HEc, HSc⟩ := hcut
  clear HE5 HS5
  go_wp2_with fail
  refine (HCALL.out (pts (w5.heap.size) (.cells #[Value.int .i64 x.1, .int .i64 (dep + 1), .int .i64 x.2, .int .i64 0, .int .i64 0, .int .i64 0, .slice none 0 0, .int .i64 0, .int .i64 0, .bool false, .bool true, .bool pgB, .int .i64 P2, .bool false, .int .i64 r.b] 123 (0, 0)) * (pts (w.heap.size + 1 + 1 + 1) (.cells #[Value.int .i64 0, .int .i64 0, .int .i64 0, .int .i64 0, .int .i64 0, .int .i64 0, .slice none 0 0, .int .i64 0, .int .i64 0, .bool false, .bool false, .bool false, .int .i64 0, .bool false, .int .i64 0] 123 (0, 0)) * (pts (w.heap.size + 1 + 1) (.cells #[Value.slice none 0 0, .int .i64 0, .bool false, .int .i64 0, .int .i64 0, .int .i64 0, .slice none 0 0, .slice none 0 0] 121 (0, 0)) * (pts (w.heap.size + 1) (.cells #[Value.int .i64 f, .int .i64 dep, .int .i64 (r.a), .int .i64 (r.b), .int .i64 (r.c), .int .i64 (r.d), .slice A5 k c5, .int .i64 (ki), .int .i64 (va), .bool lv, .bool df, .bool pg, .int .i64 pa, .bool rc, .int .i64 ou] 123 (0, 0)) * (pts (w.heap.size) (.cells #[Value.slice A n c0, .int .i64 fuel, .bool sp, .int .i64 sh, .int .i64 (mk : Int), .int .i64 dp, .slice A1 t.length c1, .slice A2 sn.length c2] 121 (0, 0)) * (Row 112 2 (.slice A5 k c5) k (cPr D) * (S))))))) _ (.slice A1 t.length c1) (.slice A2 sn.length c2) (⟨sp, sh, mk, dp, t, sn⟩ : SM) (⟨x.1, dep + 1, (⟨x.2, 0, 0, 0⟩ : R4s).l, [], 0, 0, false, true, pgB, P2, false, r.b⟩ : SF) (⟨x.2, 0, 0, 0⟩ : R4s) inferInstance inferInstance (SepI.cast (S := _) inferInstance (by ac_rfl)) rfl rfl rfl HPR2.out).mono ?_
  rintro e w4 ⟨vt4, vs4, vd4, r', rfl, hr', HP⟩
  obtain ⟨q, hq⟩ : ∃ q, call (⟨sp, sh, mk, dp, t, sn⟩ : SM) (⟨x.1, dep + 1, (⟨x.2, 0, 0, 0⟩ : R4s).l, [], 0, 0, false, true, pgB, P2, false, r.b⟩ : SF) = q := ⟨_, rfl⟩
  rw [hq] at hr' HP ⊢
  have HQ1 : Hd (lastS call (⟨sp, sh, mk, dp, t, sn⟩ : SM) (⟨f, dep, r.l, dfs, ki, va, lv, df, pg, pa, rc, ou⟩ : SF) = lastR q (⟨f, dep, r.l, D, ki, va, lv, df, pg, pa, rc, ou⟩ : SF)) := ⟨by rw [HQ0.out, hq]⟩
  clear hq HQ0
  obtain ⟨⟨sp', sh', mk', dp', t', sn'⟩, ⟨f', dep', rg', dfs', ki', va', lv', df', pg', pa', rc', ou'⟩⟩ := q
  simp only at hr' HP
  subst hr'
  have HS4 := HP.sep
  have HE4 := HP.ext
  clear HP HCALL HPR2
  obtain ⟨A4, c4, rfl, hc4, hc4'⟩ := Row.form HS4
  obtain ⟨A7, c7, rfl, hc7, hc7'⟩ := Row.form HS4.right
  obtain ⟨A6, c6, rfl, hc6, hc6'⟩ := Row.form HS4.right.right
  clear hc4 hc4' hc7 hc7' hc6 hc6'
  simp only []
  rename_i hK
  refine hK _ _ ?_
  refine ev_val rfl _ rfl ?_
  refine ev_val rfl _ rfl ?_
  refine ev_val rfl _ rfl ?_
  refine ev_store rfl 121 _ _ rfl (w.heap.size) #[Value.slice A n c0, .int .i64 fuel, .bool sp', .int .i64 sh', .int .i64 (mk' : Int), .int .i64 dp', .slice A4 t'.length c4, .slice A7 sn'.length c7] rfl rfl info_sm (by rfl) (by simp [Value.oneCell']) ?_
  intro w8 HS8 HE8
  refine ev_store rfl 123 _ _ rfl w5.heap.size #[Value.int .i64 f', .int .i64 dep', .int .i64 r'.a, .int .i64 r'.b, .int .i64 r'.c, .int .i64 r'.d, .slice A6 dfs'.length c6, .int .i64 ki', .int .i64 va', .bool lv', .bool df', .bool pg', .int .i64 pa', .bool rc', .int .i64 ou'] rfl rfl info_sf (by rfl) (by simp [Value.oneCell']) ?_
  intro w6 HS6 HE6
  cases sp'
  rotate_left
  · have HQ : Hd (lastS call (⟨sp, sh, mk, dp, t, sn⟩ : SM) (⟨f, dep, r.l, dfs, ki, va, lv, df, pg, pa, rc, ou⟩ : SF) = ((⟨true, sh', mk', dp', t', sn'⟩ : SM), (⟨f, dep, r.l, D, ki, va, lv, df, pg, pa, rc, ou⟩ : SF))) := ⟨by rw [HQ1.out]; rfl⟩
    go_wp2
    refine wp_region_T 3 (by kernel_rfl) (by kernel_rfl) (fun w' => w'.cell? ⟨w.heap.size, 0, none⟩ = some (.slice A n c0) ∧ w'.cell? ⟨w.heap.size, 1, none⟩ = some (.int .i64 fuel) ∧ w'.cell? ⟨w.heap.size, 2, none⟩ = some (.bool true) ∧ w'.cell? ⟨w.heap.size, 3, none⟩ = some (.int .i64 sh') ∧ w'.cell? ⟨w.heap.size, 4, none⟩ = some (.int .i64 (mk' : Int)) ∧ w'.cell? ⟨w.heap.size, 5, none⟩ = some (.int .i64 dp') ∧ w'.cell? ⟨w.heap.size, 6, none⟩ = some (.slice A4 t'.length c4) ∧ w'.cell? ⟨w.heap.size, 7, none⟩ = some (.slice A7 sn'.length c7) ∧ w'.cell? ⟨w.heap.size + 1, 0, none⟩ = some (.int .i64 f) ∧ w'.cell? ⟨w.heap.size + 1, 1, none⟩ = some (.int .i64 dep) ∧ w'.cell? ⟨w.heap.size + 1, 2, none⟩ = some (.int .i64 (r.a)) ∧ w'.cell? ⟨w.heap.size + 1, 3, none⟩ = some (.int .i64 (r.b)) ∧ w'.cell? ⟨w.heap.size + 1, 4, none⟩ = some (.int .i64 (r.c)) ∧ w'.cell? ⟨w.heap.size + 1, 5, none⟩ = some (.int .i64 (r.d)) ∧ w'.cell? ⟨w.heap.size + 1, 6, none⟩ = some (.slice A5 k c5) ∧ w'.cell? ⟨w.heap.size + 1, 7, none⟩ = some (.int .i64 (ki)) ∧ w'.cell? ⟨w.heap.size + 1, 8, none⟩ = some (.int .i64 (va)) ∧ w'.cell? ⟨w.heap.size + 1, 9, none⟩ = some (.bool lv) ∧ w'.cell? ⟨w.heap.size + 1, 10, none⟩ = some (.bool df) ∧ w'.cell? ⟨w.heap.size + 1, 11, none⟩ = some (.bool pg) ∧ w'.cell? ⟨w.heap.size + 1, 12, none⟩ = some (.int .i64 pa) ∧ w'.cell? ⟨w.heap.size + 1, 13, none⟩ = some (.bool rc) ∧ w'.cell? ⟨w.heap.size + 1, 14, none⟩ = some (.int .i64 ou)) ⟨cb, cb, cb, cb, cb, cb, cb, cb, cb, cb, cb, cb, cb, cb, cb, cb, cb, cb, cb, cb, cb, cb, cb⟩ (fun hHeld => ?_)
    refine wpAnyT_takeL (i := 0) (v := ?_) rfl (by kernel_rfl) (by kernel_rfl) (by kernel_rfl) (by kernel_rfl) (by kernel_rfl) (fun _ _ _ h => h) (Or.inl ⟨by rfl, ?_⟩) (by assumption) ?_
    rotate_left
    · (intro w hSw; (try dsimp only at hSw); go_simp; try with_reducible rfl)
    try simp only [Act.put, List.setIfInBounds_toArray, List.set_cons_zero, List.set_cons_succ]
    refine wpAnyT_takeL (i := 1) (v := ?_) rfl (by kernel_rfl) (by kernel_rfl) (by kernel_rfl) (by kernel_rfl) (by kernel_rfl) (fun _ _ _ h => h) (Or.inl ⟨by rfl, ?_⟩) (by assumption) ?_
    rotate_left
    · (intro w hSw; (try dsimp only at hSw); go_simp; try with_reducible rfl)
    try simp only [Act.put, List.setIfInBounds_toArray, List.set_cons_zero, List.set_cons_succ]
    refine wpAnyT_one (i := 2) (by kernel_rfl) rfl (by kernel_rfl) (fun KK hKK => ?_)
    refine st_list rfl (ev_store rfl 121 _ _ rfl (w.heap.size + 1 + 1) #[Value.slice A n c0, .int .i64 fuel, .bool true, .int .i64 sh', .int .i64 (mk' : Int), .int .i64 dp', .slice A4 t'.length c4, .slice A7 sn'.length c7] rfl rfl info_sm (by rfl) (by simp [Value.oneCell']) ?_)
    intro w8 HS8 HE8
    refine ⟨rfl, ?_⟩
    refine hKK.out _ _ ⟨cb, cb, cb, cb, cb, cb, cb, cb, cb, cb, cb, cb, cb, cb, cb, cb, cb, cb, cb, cb, cb, cb, cb⟩ (fun hHeld => ?_)
    clear hKK KK
    try simp only [Act.put, List.setIfInBounds_toArray, List.set_cons_zero, List.set_cons_succ]
    refine wpAnyT_done (by kernel_rfl) ?_
    refine ev_store rfl 123 _ _ rfl (w.heap.size + 1 + 1 + 1) #[Value.int .i64 f, .int .i64 dep, .int .i64 (r.a), .int .i64 (r.b), .int .i64 (r.c), .int .i64 (r.d), .slice A5 k c5, .int .i64 (ki), .int .i64 (va), .bool lv, .bool df, .bool pg, .int .i64 pa, .bool rc, .int .i64 ou] rfl rfl info_sf (by rfl) (by simp [Value.oneCell']) ?_
    intro w9 HS9 HE9
    go_wp2
    refine bodyPost_ret (v := .tuple #[mV (.slice A n c0) (.slice A4 t'.length c4) (.slice A7 sn'.length c7) fuel (⟨true, sh', mk', dp', t', sn'⟩ : SM), fV (⟨f, dep, r.l, D, ki, va, lv, df, pg, pa, rc, ou⟩ : SF) r (.slice A5 k c5)]) (by simp [results, Try.results118, go_sem]) rfl ?_
    exact CallP.of (m' := (⟨true, sh', mk', dp', t', sn'⟩ : SM)) (c' := (⟨f, dep, r.l, D, ki, va, lv, df, pg, pa, rc, ou⟩ : SF)) (r := r) (vt := .slice A4 t'.length c4) (vs := .slice A7 sn'.length c7) (vd := .slice A5 k c5) (k := k) HQ.out rfl HDL.out (Post.mk' (Ent.sep (S := _) (T := Row 75 3 (.slice A4 t'.length c4) t'.length (cEvs t') * (Row 112 2 (.slice A7 sn'.length c7) sn'.length (cPr sn') * (Row 112 2 (.slice A5 k c5) k (cPr D) * (S)))) inferInstance inferInstance) inferInstance)
  obtain ⟨lvv, HLV⟩ : ∃ b, Hd (b = (lv || lv')) := ⟨_, ⟨rfl⟩⟩
  obtain ⟨K2, HK2⟩ : ∃ z : Int, Hd (z = if rc' then (if lvv then 3 else 1) else ki) := ⟨_, ⟨rfl⟩⟩
  obtain ⟨K3, HK3⟩ : ∃ z : Int, Hd (z = if ki' = 2 then 2 else K2) := ⟨_, ⟨rfl⟩⟩
  obtain ⟨V3, HV3⟩ : ∃ z : Int, Hd (z = if ki' = 2 then va' else va) := ⟨_, ⟨rfl⟩⟩
  obtain ⟨K4, HK4⟩ : ∃ z : Int, Hd (z = if ki' = 3 then 3 else K3) := ⟨_, ⟨rfl⟩⟩
  have HQ : Hd (lastS call (⟨sp, sh, mk, dp, t, sn⟩ : SM) (⟨f, dep, r.l, dfs, ki, va, lv, df, pg, pa, rc, ou⟩ : SF) = ((⟨false, sh', mk', dp', t', sn'⟩ : SM), (⟨f, dep, regSet r.l 1 ou', D, K4, V3, lvv, df, pg, pa, rc, ou⟩ : SF))) := ⟨by rw [HQ1.out]; exact lastR_eq HLV.out HK2.out HK3.out HV3.out HK4.out⟩
  clear HQ1
  go_upto_region 12 with (fail)
  go_cut [] (fun wx => ExtI w wx ∧ SepI wx (pts (w5.heap.size) (.cells #[Value.int .i64 f', .int .i64 dep', .int .i64 r'.a, .int .i64 r'.b, .int .i64 r'.c, .int .i64 r'.d, .slice A6 dfs'.length c6, .int .i64 ki', .int .i64 va', .bool lv', .bool df', .bool pg', .int .i64 pa', .bool rc', .int .i64 ou'] 123 (0, 0)) * (pts (w.heap.size + 1 + 1 + 1) (.cells #[Value.int .i64 0, .int .i64 0, .int .i64 0, .int .i64 0, .int .i64 0, .int .i64 0, .slice none 0 0, .int .i64 0, .int .i64 0, .bool false, .bool false, .bool false, .int .i64 0, .bool false, .int .i64 0] 123 (0, 0)) * (pts (w.heap.size + 1 + 1) (.cells #[Value.slice none 0 0, .int .i64 0, .bool false, .int .i64 0, .int .i64 0, .int .i64 0, .slice none 0 0, .slice none 0 0] 121 (0, 0)) * (pts (w.heap.size + 1) (.cells #[Value.int .i64 f, .int .i64 dep, .int .i64 (r.a), .int .i64 (ou'), .int .i64 (r.c), .int .i64 (r.d), .slice A5 k c5, .int .i64 (ki), .int .i64 (va), .bool lvv, .bool df, .bool pg, .int .i64 pa, .bool rc, .int .i64 ou] 123 (0, 0)) * (pts (w.heap.size) (.cells #[Value.slice A n c0, .int .i64 fuel, .bool false, .int .i64 sh', .int .i64 (mk' : Int), .int .i64 dp', .slice A4 t'.length c4, .slice A7 sn'.length c7] 121 (0, 0)) * (Row 112 2 (.slice A5 k c5) k (cPr D) * (Row 75 3 (.slice A4 t'.length c4) t'.length (cEvs t') * (Row 112 2 (.slice A7 sn'.length c7) sn'.length (cPr sn') * (S))))))))))
  case first =>
    cases lv
    · obtain rfl : lvv = lv' := by rw [HLV.out]; rfl
      go_wp2
      go_meet
      exact ⟨inferInstance, Ent.sep (S := _) (T := pts (w5.heap.size) (.cells #[Value.int .i64 f', .int .i64 dep', .int .i64 r'.a, .int .i64 r'.b, .int .i64 r'.c, .int .i64 r'.d, .slice A6 dfs'.length c6, .int .i64 ki', .int .i64 va', .bool lvv, .bool df', .bool pg', .int .i64 pa', .bool rc', .int .i64 ou'] 123 (0, 0)) * (pts (w.heap.size + 1 + 1 + 1) (.cells #[Value.int .i64 0, .int .i64 0, .int .i64 0, .int .i64 0, .int .i64 0, .int .i64 0, .slice none 0 0, .int .i64 0, .int .i64 0, .bool false, .bool false, .bool false, .int .i64 0, .bool false, .int .i64 0] 123 (0, 0)) * (pts (w.heap.size + 1 + 1) (.cells #[Value.slice none 0 0, .int .i64 0, .bool false, .int .i64 0, .int .i64 0, .int .i64 0, .slice none 0 0, .slice none 0 0] 121 (0, 0)) * (pts (w.heap.size + 1) (.cells ((#[Value.int .i64 f, .int .i64 dep, .int .i64 (r.a), .int .i64 (r.b), .int .i64 (r.c), .int .i64 (r.d), .slice A5 k c5, .int .i64 (ki), .int .i64 (va), .bool false, .bool df, .bool pg, .int .i64 pa, .bool rc, .int .i64 ou].setIfInBounds 3 (.int .i64 ou')).setIfInBounds 9 (.bool lvv)) 123 (0, 0)) * (pts (w.heap.size) (.cells #[Value.slice A n c0, .int .i64 fuel, .bool false, .int .i64 sh', .int .i64 (mk' : Int), .int .i64 dp', .slice A4 t'.length c4, .slice A7 sn'.length c7] 121 (0, 0)) * (Row 112 2 (.slice A5 k c5) k (cPr D) * (Row 75 3 (.slice A4 t'.length c4) t'.length (cEvs t') * (Row 112 2 (.slice A7 sn'.length c7) sn'.length (cPr sn') * (S))))))))) inferInstance inferInstance⟩
    · obtain rfl : lvv = true := by rw [HLV.out]; rfl
      go_wp2
      go_meet
      exact ⟨inferInstance, Ent.sep (S := _) (T := pts (w5.heap.size) (.cells #[Value.int .i64 f', .int .i64 dep', .int .i64 r'.a, .int .i64 r'.b, .int .i64 r'.c, .int .i64 r'.d, .slice A6 dfs'.length c6, .int .i64 ki', .int .i64 va', .bool lv', .bool df', .bool pg', .int .i64 pa', .bool rc', .int .i64 ou'] 123 (0, 0)) * (pts (w.heap.size + 1 + 1 + 1) (.cells #[Value.int .i64 0, .int .i64 0, .int .i64 0, .int .i64 0, .int .i64 0, .int .i64 0, .slice none 0 0, .int .i64 0, .int .i64 0, .bool false, .bool false, .bool false, .int .i64 0, .bool false, .int .i64 0] 123 (0, 0)) * (pts (w.heap.size + 1 + 1) (.cells #[Value.slice none 0 0, .int .i64 0, .bool false, .int .i64 0, .int .i64 0, .int .i64 0, .slice none 0 0, .slice none 0 0] 121 (0, 0)) * (pts (w.heap.size + 1) (.cells ((#[Value.int .i64 f, .int .i64 dep, .int .i64 (r.a), .int .i64 (r.b), .int .i64 (r.c), .int .i64 (r.d), .slice A5 k c5, .int .i64 (ki), .int .i64 (va), .bool true, .bool df, .bool pg, .int .i64 pa, .bool rc, .int .i64 ou].setIfInBounds 3 (.int .i64 ou')).setIfInBounds 9 (.bool true)) 123 (0, 0)) * (pts (w.heap.size) (.cells #[Value.slice A n c0, .int .i64 fuel, .bool false, .int .i64 sh', .int .i64 (mk' : Int), .int .i64 dp', .slice A4 t'.length c4, .slice A7 sn'.length c7] 121 (0, 0)) * (Row 112 2 (.slice A5 k c5) k (cPr D) * (Row 75 3 (.slice A4 t'.length c4) t'.length (cEvs t') * (Row 112 2 (.slice A7 sn'.length c7) sn'.length (cPr sn') * (S))))))))) inferInstance inferInstance⟩
  case rest =>
  obtain ⟨HEc, HSc⟩ := hcut
  go_upto_if 66 with fail
  go_cut [] (fun wx => ExtI w wx ∧ SepI wx (pts (w5.heap.size) (.cells #[Value.int .i64 f', .int .i64 dep', .int .i64 r'.a, .int .i64 r'.b, .int .i64 r'.c, .int .i64 r'.d, .slice A6 dfs'.length c6, .int .i64 ki', .int .i64 va', .bool lv', .bool df', .bool pg', .int .i64 pa', .bool rc', .int .i64 ou'] 123 (0, 0)) * (pts (w.heap.size + 1 + 1 + 1) (.cells #[Value.int .i64 0, .int .i64 0, .int .i64 0, .int .i64 0, .int .i64 0, .int .i64 0, .slice none 0 0, .int .i64 0, .int .i64 0, .bool false, .bool false, .bool false, .int .i64 0, .bool false, .int .i64 0] 123 (0, 0)) * (pts (w.heap.size + 1 + 1) (.cells #[Value.slice none 0 0, .int .i64 0, .bool false, .int .i64 0, .int .i64 0, .int .i64 0, .slice none 0 0, .slice none 0 0] 121 (0, 0)) * (pts (w.heap.size + 1) (.cells #[Value.int .i64 f, .int .i64 dep, .int .i64 (r.a), .int .i64 (ou'), .int .i64 (r.c), .int .i64 (r.d), .slice A5 k c5, .int .i64 (K2), .int .i64 (va), .bool lvv, .bool df, .bool pg, .int .i64 pa, .bool rc, .int .i64 ou] 123 (0, 0)) * (pts (w.heap.size) (.cells #[Value.slice A n c0, .int .i64 fuel, .bool false, .int .i64 sh', .int .i64 (mk' : Int), .int .i64 dp', .slice A4 t'.length c4, .slice A7 sn'.length c7] 121 (0, 0)) * (Row 112 2 (.slice A5 k c5) k (cPr D) * (Row 75 3 (.slice A4 t'.length c4) t'.length (cEvs t') * (Row 112 2 (.slice A7 sn'.length c7) sn'.length (cPr sn') * (S))))))))))
  case first =>
    cases rc'
    · obtain rfl : K2 = ki := by rw [HK2.out]; rfl
      go_wp2
      go_meet
      exact ⟨inferInstance, Ent.sep (S := _) (T := pts (w5.heap.size) (.cells #[Value.int .i64 f', .int .i64 dep', .int .i64 r'.a, .int .i64 r'.b, .int .i64 r'.c, .int .i64 r'.d, .slice A6 dfs'.length c6, .int .i64 ki', .int .i64 va', .bool lv', .bool df', .bool pg', .int .i64 pa', .bool false, .int .i64 ou'] 123 (0, 0)) * (pts (w.heap.size + 1 + 1 + 1) (.cells #[Value.int .i64 0, .int .i64 0, .int .i64 0, .int .i64 0, .int .i64 0, .int .i64 0, .slice none 0 0, .int .i64 0, .int .i64 0, .bool false, .bool false, .bool false, .int .i64 0, .bool false, .int .i64 0] 123 (0, 0)) * (pts (w.heap.size + 1 + 1) (.cells #[Value.slice none 0 0, .int .i64 0, .bool false, .int .i64 0, .int .i64 0, .int .i64 0, .slice none 0 0, .slice none 0 0] 121 (0, 0)) * (pts (w.heap.size + 1) (.cells #[Value.int .i64 f, .int .i64 dep, .int .i64 (r.a), .int .i64 (ou'), .int .i64 (r.c), .int .i64 (r.d), .slice A5 k c5, .int .i64 (K2), .int .i64 (va), .bool lvv, .bool df, .bool pg, .int .i64 pa, .bool rc, .int .i64 ou] 123 (0, 0)) * (pts (w.heap.size) (.cells #[Value.slice A n c0, .int .i64 fuel, .bool false, .int .i64 sh', .int .i64 (mk' : Int), .int .i64 dp', .slice A4 t'.length c4, .slice A7 sn'.length c7] 121 (0, 0)) * (Row 112 2 (.slice A5 k c5) k (cPr D) * (Row 75 3 (.slice A4 t'.length c4) t'.length (cEvs t') * (Row 112 2 (.slice A7 sn'.length c7) sn'.length (cPr sn') * (S))))))))) inferInstance inferInstance⟩
    · cases lvv
      · obtain rfl : K2 = 1 := by rw [HK2.out]; rfl
        go_wp2
        go_meet
        exact ⟨inferInstance, Ent.sep (S := _) (T := pts (w5.heap.size) (.cells #[Value.int .i64 f', .int .i64 dep', .int .i64 r'.a, .int .i64 r'.b, .int .i64 r'.c, .int .i64 r'.d, .slice A6 dfs'.length c6, .int .i64 ki', .int .i64 va', .bool lv', .bool df', .bool pg', .int .i64 pa', .bool true, .int .i64 ou'] 123 (0, 0)) * (pts (w.heap.size + 1 + 1 + 1) (.cells #[Value.int .i64 0, .int .i64 0, .int .i64 0, .int .i64 0, .int .i64 0, .int .i64 0, .slice none 0 0, .int .i64 0, .int .i64 0, .bool false, .bool false, .bool false, .int .i64 0, .bool false, .int .i64 0] 123 (0, 0)) * (pts (w.heap.size + 1 + 1) (.cells #[Value.slice none 0 0, .int .i64 0, .bool false, .int .i64 0, .int .i64 0, .int .i64 0, .slice none 0 0, .slice none 0 0] 121 (0, 0)) * (pts (w.heap.size + 1) (.cells (#[Value.int .i64 f, .int .i64 dep, .int .i64 (r.a), .int .i64 (ou'), .int .i64 (r.c), .int .i64 (r.d), .slice A5 k c5, .int .i64 (ki), .int .i64 (va), .bool false, .bool df, .bool pg, .int .i64 pa, .bool rc, .int .i64 ou].setIfInBounds 7 (.int .i64 1)) 123 (0, 0)) * (pts (w.heap.size) (.cells #[Value.slice A n c0, .int .i64 fuel, .bool false, .int .i64 sh', .int .i64 (mk' : Int), .int .i64 dp', .slice A4 t'.length c4, .slice A7 sn'.length c7] 121 (0, 0)) * (Row 112 2 (.slice A5 k c5) k (cPr D) * (Row 75 3 (.slice A4 t'.length c4) t'.length (cEvs t') * (Row 112 2 (.slice A7 sn'.length c7) sn'.length (cPr sn') * (S))))))))) inferInstance inferInstance⟩
      · obtain rfl : K2 = 3 := by rw [HK2.out]; rfl
        go_wp2
        go_meet
        exact ⟨inferInstance, Ent.sep (S := _) (T := pts (w5.heap.size) (.cells #[Value.int .i64 f', .int .i64 dep', .int .i64 r'.a, .int .i64 r'.b, .int .i64 r'.c, .int .i64 r'.d, .slice A6 dfs'.length c6, .int .i64 ki', .int .i64 va', .bool lv', .bool df', .bool pg', .int .i64 pa', .bool true, .int .i64 ou'] 123 (0, 0)) * (pts (w.heap.size + 1 + 1 + 1) (.cells #[Value.int .i64 0, .int .i64 0, .int .i64 0, .int .i64 0, .int .i64 0, .int .i64 0, .slice none 0 0, .int .i64 0, .int .i64 0, .bool false, .bool false, .bool false, .int .i64 0, .bool false, .int .i64 0] 123 (0, 0)) * (pts (w.heap.size + 1 + 1) (.cells #[Value.slice none 0 0, .int .i64 0, .bool false, .int .i64 0, .int .i64 0, .int .i64 0, .slice none 0 0, .slice none 0 0] 121 (0, 0)) * (pts (w.heap.size + 1) (.cells ((#[Value.int .i64 f, .int .i64 dep, .int .i64 (r.a), .int .i64 (ou'), .int .i64 (r.c), .int .i64 (r.d), .slice A5 k c5, .int .i64 (ki), .int .i64 (va), .bool true, .bool df, .bool pg, .int .i64 pa, .bool rc, .int .i64 ou].setIfInBounds 7 (.int .i64 1)).setIfInBounds 7 (.int .i64 3)) 123 (0, 0)) * (pts (w.heap.size) (.cells #[Value.slice A n c0, .int .i64 fuel, .bool false, .int .i64 sh', .int .i64 (mk' : Int), .int .i64 dp', .slice A4 t'.length c4, .slice A7 sn'.length c7] 121 (0, 0)) * (Row 112 2 (.slice A5 k c5) k (cPr D) * (Row 75 3 (.slice A4 t'.length c4) t'.length (cEvs t') * (Row 112 2 (.slice A7 sn'.length c7) sn'.length (cPr sn') * (S))))))))) inferInstance inferInstance⟩
  case rest =>
  obtain ⟨HEc, HSc⟩ := hcut
  go_upto_if 73 with fail
  go_cut [] (fun wx => ExtI w wx ∧ SepI wx (pts (w5.heap.size) (.cells #[Value.int .i64 f', .int .i64 dep', .int .i64 r'.a, .int .i64 r'.b, .int .i64 r'.c, .int .i64 r'.d, .slice A6 dfs'.length c6, .int .i64 ki', .int .i64 va', .bool lv', .bool df', .bool pg', .int .i64 pa', .bool rc', .int .i64 ou'] 123 (0, 0)) * (pts (w.heap.size + 1 + 1 + 1) (.cells #[Value.int .i64 0, .int .i64 0, .int .i64 0, .int .i64 0, .int .i64 0, .int .i64 0, .slice none 0 0, .int .i64 0, .int .i64 0, .bool false, .bool false, .bool false, .int .i64 0, .bool false, .int .i64 0] 123 (0, 0)) * (pts (w.heap.size + 1 + 1) (.cells #[Value.slice none 0 0, .int .i64 0, .bool false, .int .i64 0, .int .i64 0, .int .i64 0, .slice none 0 0, .slice none 0 0] 121 (0, 0)) * (pts (w.heap.size + 1) (.cells #[Value.int .i64 f, .int .i64 dep, .int .i64 (r.a), .int .i64 (ou'), .int .i64 (r.c), .int .i64 (r.d), .slice A5 k c5, .int .i64 (K3), .int .i64 (V3), .bool lvv, .bool df, .bool pg, .int .i64 pa, .bool rc, .int .i64 ou] 123 (0, 0)) * (pts (w.heap.size) (.cells #[Value.slice A n c0, .int .i64 fuel, .bool false, .int .i64 sh', .int .i64 (mk' : Int), .int .i64 dp', .slice A4 t'.length c4, .slice A7 sn'.length c7] 121 (0, 0)) * (Row 112 2 (.slice A5 k c5) k (cPr D) * (Row 75 3 (.slice A4 t'.length c4) t'.length (cEvs t') * (Row 112 2 (.slice A7 sn'.length c7) sn'.length (cPr sn') * (S))))))))))
  case first =>
    by_cases k2 : ki' = 2
    · subst k2
      obtain rfl : K3 = 2 := by rw [HK3.out, if_pos rfl]
      obtain rfl : V3 = va' := by rw [HV3.out, if_pos rfl]
      go_wp2
      go_meet
      exact ⟨inferInstance, Ent.sep (S := _) (T := pts (w5.heap.size) (.cells #[Value.int .i64 f', .int .i64 dep', .int .i64 r'.a, .int .i64 r'.b, .int .i64 r'.c, .int .i64 r'.d, .slice A6 dfs'.length c6, .int .i64 2, .int .i64 V3, .bool lv', .bool df', .bool pg', .int .i64 pa', .bool rc', .int .i64 ou'] 123 (0, 0)) * (pts (w.heap.size + 1 + 1 + 1) (.cells #[Value.int .i64 0, .int .i64 0, .int .i64 0, .int .i64 0, .int .i64 0, .int .i64 0, .slice none 0 0, .int .i64 0, .int .i64 0, .bool false, .bool false, .bool false, .int .i64 0, .bool false, .int .i64 0] 123 (0, 0)) * (pts (w.heap.size + 1 + 1) (.cells #[Value.slice none 0 0, .int .i64 0, .bool false, .int .i64 0, .int .i64 0, .int .i64 0, .slice none 0 0, .slice none 0 0] 121 (0, 0)) * (pts (w.heap.size + 1) (.cells ((#[Value.int .i64 f, .int .i64 dep, .int .i64 (r.a), .int .i64 (ou'), .int .i64 (r.c), .int .i64 (r.d), .slice A5 k c5, .int .i64 (K2), .int .i64 (va), .bool lvv, .bool df, .bool pg, .int .i64 pa, .bool rc, .int .i64 ou].setIfInBounds 7 (.int .i64 2)).setIfInBounds 8 (.int .i64 V3)) 123 (0, 0)) * (pts (w.heap.size) (.cells #[Value.slice A n c0, .int .i64 fuel, .bool false, .int .i64 sh', .int .i64 (mk' : Int), .int .i64 dp', .slice A4 t'.length c4, .slice A7 sn'.length c7] 121 (0, 0)) * (Row 112 2 (.slice A5 k c5) k (cPr D) * (Row 75 3 (.slice A4 t'.length c4) t'.length (cEvs t') * (Row 112 2 (.slice A7 sn'.length c7) sn'.length (cPr sn') * (S))))))))) inferInstance inferInstance⟩
    · have k2' : (ki' == 2) = false := beq_eq_false_iff_ne.2 k2
      obtain rfl : K3 = K2 := by rw [HK3.out, if_neg k2]
      obtain rfl : V3 = va := by rw [HV3.out, if_neg k2]
      clear k2
      go_wp2
      go_meet
      exact ⟨inferInstance, Ent.sep (S := _) (T := pts (w5.heap.size) (.cells #[Value.int .i64 f', .int .i64 dep', .int .i64 r'.a, .int .i64 r'.b, .int .i64 r'.c, .int .i64 r'.d, .slice A6 dfs'.length c6, .int .i64 ki', .int .i64 va', .bool lv', .bool df', .bool pg', .int .i64 pa', .bool rc', .int .i64 ou'] 123 (0, 0)) * (pts (w.heap.size + 1 + 1 + 1) (.cells #[Value.int .i64 0, .int .i64 0, .int .i64 0, .int .i64 0, .int .i64 0, .int .i64 0, .slice none 0 0, .int .i64 0, .int .i64 0, .bool false, .bool false, .bool false, .int .i64 0, .bool false, .int .i64 0] 123 (0, 0)) * (pts (w.heap.size + 1 + 1) (.cells #[Value.slice none 0 0, .int .i64 0, .bool false, .int .i64 0, .int .i64 0, .int .i64 0, .slice none 0 0, .slice none 0 0] 121 (0, 0)) * (pts (w.heap.size + 1) (.cells #[Value.int .i64 f, .int .i64 dep, .int .i64 (r.a), .int .i64 (ou'), .int .i64 (r.c), .int .i64 (r.d), .slice A5 k c5, .int .i64 (K3), .int .i64 (V3), .bool lvv, .bool df, .bool pg, .int .i64 pa, .bool rc, .int .i64 ou] 123 (0, 0)) * (pts (w.heap.size) (.cells #[Value.slice A n c0, .int .i64 fuel, .bool false, .int .i64 sh', .int .i64 (mk' : Int), .int .i64 dp', .slice A4 t'.length c4, .slice A7 sn'.length c7] 121 (0, 0)) * (Row 112 2 (.slice A5 k c5) k (cPr D) * (Row 75 3 (.slice A4 t'.length c4) t'.length (cEvs t') * (Row 112 2 (.slice A7 sn'.length c7) sn'.length (cPr sn') * (S))))))))) inferInstance inferInstance⟩
  case rest =>
  obtain ⟨HEc, HSc⟩ := hcut
  go_upto_if 80 with fail
  go_cut [] (fun wx => ExtI w wx ∧ SepI wx (pts (w5.heap.size) (.cells #[Value.int .i64 f', .int .i64 dep', .int .i64 r'.a, .int .i64 r'.b, .int .i64 r'.c, .int .i64 r'.d, .slice A6 dfs'.length c6, .int .i64 ki', .int .i64 va', .bool lv', .bool df', .bool pg', .int .i64 pa', .bool rc', .int .i64 ou'] 123 (0, 0)) * (pts (w.heap.size + 1 + 1 + 1) (.cells #[Value.int .i64 0, .int .i64 0, .int .i64 0, .int .i64 0, .int .i64 0, .int .i64 0, .slice none 0 0, .int .i64 0, .int .i64 0, .bool false, .bool false, .bool false, .int .i64 0, .bool false, .int .i64 0] 123 (0, 0)) * (pts (w.heap.size + 1 + 1) (.cells #[Value.slice none 0 0, .int .i64 0, .bool false, .int .i64 0, .int .i64 0, .int .i64 0, .slice none 0 0, .slice none 0 0] 121 (0, 0)) * (pts (w.heap.size + 1) (.cells #[Value.int .i64 f, .int .i64 dep, .int .i64 (r.a), .int .i64 (ou'), .int .i64 (r.c), .int .i64 (r.d), .slice A5 k c5, .int .i64 (K4), .int .i64 (V3), .bool lvv, .bool df, .bool pg, .int .i64 pa, .bool rc, .int .i64 ou] 123 (0, 0)) * (pts (w.heap.size) (.cells #[Value.slice A n c0, .int .i64 fuel, .bool false, .int .i64 sh', .int .i64 (mk' : Int), .int .i64 dp', .slice A4 t'.length c4, .slice A7 sn'.length c7] 121 (0, 0)) * (Row 112 2 (.slice A5 k c5) k (cPr D) * (Row 75 3 (.slice A4 t'.length c4) t'.length (cEvs t') * (Row 112 2 (.slice A7 sn'.length c7) sn'.length (cPr sn') * (S))))))))))
  case first =>
    by_cases k3 : ki' = 3
    · subst k3
      obtain rfl : K4 = 3 := by rw [HK4.out, if_pos rfl]
      go_wp2
      go_meet
      exact ⟨inferInstance, Ent.sep (S := _) (T := pts (w5.heap.size) (.cells #[Value.int .i64 f', .int .i64 dep', .int .i64 r'.a, .int .i64 r'.b, .int .i64 r'.c, .int .i64 r'.d, .slice A6 dfs'.length c6, .int .i64 3, .int .i64 va', .bool lv', .bool df', .bool pg', .int .i64 pa', .bool rc', .int .i64 ou'] 123 (0, 0)) * (pts (w.heap.size + 1 + 1 + 1) (.cells #[Value.int .i64 0, .int .i64 0, .int .i64 0, .int .i64 0, .int .i64 0, .int .i64 0, .slice none 0 0, .int .i64 0, .int .i64 0, .bool false, .bool false, .bool false, .int .i64 0, .bool false, .int .i64 0] 123 (0, 0)) * (pts (w.heap.size + 1 + 1) (.cells #[Value.slice none 0 0, .int .i64 0, .bool false, .int .i64 0, .int .i64 0, .int .i64 0, .slice none 0 0, .slice none 0 0] 121 (0, 0)) * (pts (w.heap.size + 1) (.cells (#[Value.int .i64 f, .int .i64 dep, .int .i64 (r.a), .int .i64 (ou'), .int .i64 (r.c), .int .i64 (r.d), .slice A5 k c5, .int .i64 (K3), .int .i64 (V3), .bool lvv, .bool df, .bool pg, .int .i64 pa, .bool rc, .int .i64 ou].setIfInBounds 7 (.int .i64 3)) 123 (0, 0)) * (pts (w.heap.size) (.cells #[Value.slice A n c0, .int .i64 fuel, .bool false, .int .i64 sh', .int .i64 (mk' : Int), .int .i64 dp', .slice A4 t'.length c4, .slice A7 sn'.length c7] 121 (0, 0)) * (Row 112 2 (.slice A5 k c5) k (cPr D) * (Row 75 3 (.slice A4 t'.length c4) t'.length (cEvs t') * (Row 112 2 (.slice A7 sn'.length c7) sn'.length (cPr sn') * (S))))))))) inferInstance inferInstance⟩
    · have k3' : (ki' == 3) = false := beq_eq_false_iff_ne.2 k3
      obtain rfl : K4 = K3 := by rw [HK4.out, if_neg k3]
      clear k3
      go_wp2
      go_meet
      exact ⟨inferInstance, Ent.sep (S := _) (T := pts (w5.heap.size) (.cells #[Value.int .i64 f', .int .i64 dep', .int .i64 r'.a, .int .i64 r'.b, .int .i64 r'.c, .int .i64 r'.d, .slice A6 dfs'.length c6, .int .i64 ki', .int .i64 va', .bool lv', .bool df', .bool pg', .int .i64 pa', .bool rc', .int .i64 ou'] 123 (0, 0)) * (pts (w.heap.size + 1 + 1 + 1) (.cells #[Value.int .i64 0, .int .i64 0, .int .i64 0, .int .i64 0, .int .i64 0, .int .i64 0, .slice none 0 0, .int .i64 0, .int .i64 0, .bool false, .bool false, .bool false, .int .i64 0, .bool false, .int .i64 0] 123 (0, 0)) * (pts (w.heap.size + 1 + 1) (.cells #[Value.slice none 0 0, .int .i64 0, .bool false, .int .i64 0, .int .i64 0, .int .i64 0, .slice none 0 0, .slice none 0 0] 121 (0, 0)) * (pts (w.heap.size + 1) (.cells #[Value.int .i64 f, .int .i64 dep, .int .i64 (r.a), .int .i64 (ou'), .int .i64 (r.c), .int .i64 (r.d), .slice A5 k c5, .int .i64 (K4), .int .i64 (V3), .bool lvv, .bool df, .bool pg, .int .i64 pa, .bool rc, .int .i64 ou] 123 (0, 0)) * (pts (w.heap.size) (.cells #[Value.slice A n c0, .int .i64 fuel, .bool false, .int .i64 sh', .int .i64 (mk' : Int), .int .i64 dp', .slice A4 t'.length c4, .slice A7 sn'.length c7] 121 (0, 0)) * (Row 112 2 (.slice A5 k c5) k (cPr D) * (Row 75 3 (.slice A4 t'.length c4) t'.length (cEvs t') * (Row 112 2 (.slice A7 sn'.length c7) sn'.length (cPr sn') * (S))))))))) inferInstance inferInstance⟩
  case rest =>
  obtain ⟨HEc, HSc⟩ := hcut
  go_wp2
  refine wp_region_T 3 (by kernel_rfl) (by kernel_rfl) (fun w' => w'.cell? ⟨w.heap.size, 0, none⟩ = some (.slice A n c0) ∧ w'.cell? ⟨w.heap.size, 1, none⟩ = some (.int .i64 fuel) ∧ w'.cell? ⟨w.heap.size, 2, none⟩ = some (.bool false) ∧ w'.cell? ⟨w.heap.size, 3, none⟩ = some (.int .i64 sh') ∧ w'.cell? ⟨w.heap.size, 4, none⟩ = some (.int .i64 (mk' : Int)) ∧ w'.cell? ⟨w.heap.size, 5, none⟩ = some (.int .i64 dp') ∧ w'.cell? ⟨w.heap.size, 6, none⟩ = some (.slice A4 t'.length c4) ∧ w'.cell? ⟨w.heap.size, 7, none⟩ = some (.slice A7 sn'.length c7) ∧ w'.cell? ⟨w.heap.size + 1, 0, none⟩ = some (.int .i64 f) ∧ w'.cell? ⟨w.heap.size + 1, 1, none⟩ = some (.int .i64 dep) ∧ w'.cell? ⟨w.heap.size + 1, 2, none⟩ = some (.int .i64 (r.a)) ∧ w'.cell? ⟨w.heap.size + 1, 3, none⟩ = some (.int .i64 (ou')) ∧ w'.cell? ⟨w.heap.size + 1, 4, none⟩ = some (.int .i64 (r.c)) ∧ w'.cell? ⟨w.heap.size + 1, 5, none⟩ = some (.int .i64 (r.d)) ∧ w'.cell? ⟨w.heap.size + 1, 6, none⟩ = some (.slice A5 k c5) ∧ w'.cell? ⟨w.heap.size + 1, 7, none⟩ = some (.int .i64 (K4)) ∧ w'.cell? ⟨w.heap.size + 1, 8, none⟩ = some (.int .i64 (V3)) ∧ w'.cell? ⟨w.heap.size + 1, 9, none⟩ = some (.bool lvv) ∧ w'.cell? ⟨w.heap.size + 1, 10, none⟩ = some (.bool df) ∧ w'.cell? ⟨w.heap.size + 1, 11, none⟩ = some (.bool pg) ∧ w'.cell? ⟨w.heap.size + 1, 12, none⟩ = some (.int .i64 pa) ∧ w'.cell? ⟨w.heap.size + 1, 13, none⟩ = some (.bool rc) ∧ w'.cell? ⟨w.heap.size + 1, 14, none⟩ = some (.int .i64 ou)) ⟨cb, cb, cb, cb, cb, cb, cb, cb, cb, cb, cb, cb, cb, cb, cb, cb, cb, cb, cb, cb, cb, cb, cb⟩ (fun hHeld => ?_)
  refine wpAnyT_takeL (i := 0) (v := ?_) rfl (by kernel_rfl) (by kernel_rfl) (by kernel_rfl) (by kernel_rfl) (by kernel_rfl) (fun _ _ _ h => h) (Or.inl ⟨by rfl, ?_⟩) (by assumption) ?_
  rotate_left
  · (intro w hSw; (try dsimp only at hSw); go_simp; try with_reducible rfl)
  try simp only [Act.put, List.setIfInBounds_toArray, List.set_cons_zero, List.set_cons_succ]
  refine wpAnyT_takeL (i := 1) (v := ?_) rfl (by kernel_rfl) (by kernel_rfl) (by kernel_rfl) (by kernel_rfl) (by kernel_rfl) (fun _ _ _ h => h) (Or.inl ⟨by rfl, ?_⟩) (by assumption) ?_
  rotate_left
  · (intro w hSw; (try dsimp only at hSw); go_simp; try with_reducible rfl)
  try simp only [Act.put, List.setIfInBounds_toArray, List.set_cons_zero, List.set_cons_succ]
  refine wpAnyT_one (i := 2) (by kernel_rfl) rfl (by kernel_rfl) (fun KK hKK => ?_)
  refine st_list rfl (ev_store rfl 121 _ _ rfl (w.heap.size + 1 + 1) #[Value.slice A n c0, .int .i64 fuel, .bool false, .int .i64 sh', .int .i64 (mk' : Int), .int .i64 dp', .slice A4 t'.length c4, .slice A7 sn'.length c7] rfl rfl info_sm (by rfl) (by simp [Value.oneCell']) ?_)
  intro w8 HS8 HE8
  refine ⟨rfl, ?_⟩
  refine hKK.out _ _ ⟨cb, cb, cb, cb, cb, cb, cb, cb, cb, cb, cb, cb, cb, cb, cb, cb, cb, cb, cb, cb, cb, cb, cb⟩ (fun hHeld => ?_)
  clear hKK KK
  try simp only [Act.put, List.setIfInBounds_toArray, List.set_cons_zero, List.set_cons_succ]
  refine wpAnyT_done (by kernel_rfl) ?_
  refine ev_store rfl 123 _ _ rfl (w.heap.size + 1 + 1 + 1) #[Value.int .i64 f, .int .i64 dep, .int .i64 (r.a), .int .i64 (ou'), .int .i64 (r.c), .int .i64 (r.d), .slice A5 k c5, .int .i64 (K4), .int .i64 (V3), .bool lvv, .bool df, .bool pg, .int .i64 pa, .bool rc, .int .i64 ou] rfl rfl info_sf (by rfl) (by simp [Value.oneCell']) ?_
  intro w9 HS9 HE9
  go_wp2
  refine bodyPost_ret (v := .tuple #[mV (.slice A n c0) (.slice A4 t'.length c4) (.slice A7 sn'.length c7) fuel (⟨false, sh', mk', dp', t', sn'⟩ : SM), fV (⟨f, dep, regSet r.l 1 ou', D, K4, V3, lvv, df, pg, pa, rc, ou⟩ : SF) (⟨r.a, ou', r.c, r.d⟩ : R4s) (.slice A5 k c5)]) (by simp [results, Try.results118, go_sem]) rfl ?_
  exact CallP.of (m' := (⟨false, sh', mk', dp', t', sn'⟩ : SM)) (c' := (⟨f, dep, regSet r.l 1 ou', D, K4, V3, lvv, df, pg, pa, rc, ou⟩ : SF)) (r := (⟨r.a, ou', r.c, r.d⟩ : R4s)) (vt := .slice A4 t'.length c4) (vs := .slice A7 sn'.length c7) (vd := .slice A5 k c5) (k := k) HQ.out rfl HDL.out (Post.mk' (Ent.sep (S := _) (T := Row 75 3 (.slice A4 t'.length c4) t'.length (cEvs t') * (Row 112 2 (.slice A7 sn'.length c7) sn'.length (cPr sn') * (Row 112 2 (.slice A5 k c5) k (cPr D) * (S)))) inferInstance inferInstance) inferInstance)
end Go.Proofs.Ytobikkdnalnllaa
