/- What a call has deferred and run, by the reference. Conditions: lengths within bounds. -/
import Derived.Test.YthnaoedlnificaaYg
import Derived.Test.YthnaoedlnificaaYh
namespace Go.Proofs.Ythnaoedlnificaa
open Go.RowKit SL
attribute [local go_sem] cell_blk frozen_blk lt_blk cell_at frozen_row lt_row
set_option linter.unusedVariables false
set_option linter.unusedSimpArgs false

theorem SL.ev_valG {P : Program} {ops : Array Oper} {rest : List Oper} {o : Oper} {a : Act} {Q : Exit → Act → World → Prop} {w : World} (hw : Region.wanted o (yielded ops a.tmps) = true) (v : Value) (h : (execOp a.eval o).run P w = .ok (.value v) w) (k : wpList P ops Q rest (a.put o.dst v) w) : wpList P ops Q (o :: rest) a w := by
  unfold wpList
  rw [if_pos hw]
  left
  unfold Oper.wp
  rw [h]
  exact k
/-- A row of pairs is handed back. -/
def A2Post (S : HP) (l : List (Int × Int)) (w : World) (e : Ending) (w' : World) : Prop := ∃ A c, e = .returned (.slice A l.length c) ∧ Post w (Row 98 2 (.slice A l.length c) l.length (cPr l) * S) w'
/-- A run has a call. -/
def callB (L : List (List St)) (fn arg fuel call : Int) : Bool := askB L fn arg fuel && inB call 0 (((ranM L fn arg fuel.toNat).m.calls.length : Int) - 1)
set_option maxRecDepth 100000 in
set_option maxHeartbeats 8000000 in
theorem spec_l3CallN (S : HP) (w : World) [H : SepI w S] (A : Option Addr) (c : Nat) (bs : List Bd) [r : Rd S A (cBds bs)] [B : Bodies S bs] (fn arg fuel call : Int) (hv : askB (bs.map (·.l)) fn arg fuel = false) :
    Calls Try.prog 74 #[.agg #[.slice A bs.length c], .int .i64 fn, .int .i64 arg, .int .i64 fuel, .int .i64 call] w fun e w' => e = .returned (.bool false) ∧ Post w S w' := by
  have hbn := B.n
  have HV := Hd.mk hv
  clear hv
  go_enter Try.func74, Try.ntmps74
  go_wp2_with fail
  refine (spec_l2Ask _ _ A c bs fn arg fuel _ HV.out).mono ?_
  rintro e w1 ⟨rfl, HP⟩
  have HS1 := HP.sep
  have HE1 := HP.ext
  clear HP
  go_wp2
  go_ret
  exact ⟨rfl, Post.mk' (Ent.sep (S := _) inferInstance inferInstance) inferInstance⟩
set_option maxRecDepth 100000 in
set_option maxHeartbeats 8000000 in
theorem spec_l3CallV (S : HP) (w : World) [H : SepI w S] (A : Option Addr) (c : Nat) (bs : List Bd) [r : Rd S A (cBds bs)] [B : Bodies S bs] (hnn : NoneNil bs) (fn arg : Int) (fu : Nat) (L : List (List St)) (hbs : bs.map (·.l) = L) (hv : askB L fn arg fu = true) (call : Int) (v : Bool) (hin : inB call 0 (((ranM L fn arg fu).m.calls.length : Int) - 1) = v) :
    Calls Try.prog 74 #[.agg #[.slice A bs.length c], .int .i64 fn, .int .i64 arg, .int .i64 fu, .int .i64 call] w fun e w' => e = .returned (.bool v) ∧ Post w S w' := by
  have HNN := Hd.mk hnn
  have HV2 : Hd (askB (bs.map (·.l)) fn arg fu = true) := ⟨by rw [hbs]; exact hv⟩
  clear hnn
  have hbn := B.n
  have HV := Hd.mk hv
  have HB := Hd.mk hbs
  have HF := Hd.mk (factsB hv)
  clear hv hbs
  obtain ⟨R, hR⟩ : ∃ R, ranM L fn arg fu = R := ⟨_, rfl⟩
  have HR := Hd.mk hR
  rw [hR] at HF hin
  clear hR
  have hcl : R.m.calls.length ≤ 1000 := by have h1 := HF.out.bl.c; have h2 := HF.out.ts; omega
  obtain ⟨nc, hnc⟩ : ∃ nc, nc = R.m.calls.length := ⟨_, rfl⟩
  rw [← hnc] at hin hcl
  have HIN := Hd.mk hin
  clear hin
  obtain ⟨C, hC⟩ : ∃ C, R.m.calls.map c5 = C := ⟨_, rfl⟩
  have HC := Hd.mk hC
  have HCL : Hd (C.length = nc) := ⟨by rw [← hC, List.length_map, hnc]⟩
  clear hC hnc
  have hwl : IntKind.i64.wrap ((nc : Int) - 1) = (nc : Int) - 1 := IntWalk.i64_in _ (by omega)
  go_enter Try.func74, Try.ntmps74
  go_wp2_with fail
  refine (spec_l2Ask _ _ A c bs fn arg fu _ HV2.out).mono ?_
  rintro e w1 ⟨rfl, HP⟩
  have HS1 := HP.sep
  have HE1 := HP.ext
  clear HP
  go_wp2_with fail
  refine (spec_runX _ _ A c bs HNN.out fn arg fu L HB.out HV.out).mono ?_
  rw [HR.out]
  rintro e w2 ⟨A2, c2, rfl, HP⟩
  have HS2 := HP.sep
  have HE2 := HP.ext
  clear HP
  try simp only []
  rename_i hK
  refine hK _ _ ?_
  clear hK
  refine ev_valG (by rfl) _ rfl ?_
  obtain ⟨now, hr3⟩ := HF.out.r3
  rw [HC.out] at hr3
  have HR3 := Hd.mk hr3
  clear hr3
  go_wp2_with fail
  refine (@spec_l3Read _ w2 HS2 A2 c2 R.m.trace inferInstance HF.out.ts _ _ now HR3.out).mono ?_
  rintro e w3 ⟨Ac, cc, Ao, oc, rfl, HP⟩
  rw [HCL.out] at HP ⊢
  have HS3 := HP.sep
  have HE3 := HP.ext
  clear HP
  try simp only []
  rename_i hK
  refine hK _ _ ?_
  clear hK
  refine ev_valG (by rfl) _ rfl ?_
  go_wp2_with fail
  refine (spec_in _ _ _ _ _ HIN.out).mono ?_
  rintro e wz ⟨rfl, hz⟩
  have hz2 := hz.symm
  subst hz2
  clear hz
  go_wp2
  go_ret
  exact ⟨rfl, Post.mk' (Ent.sep (S := _) inferInstance inferInstance) inferInstance⟩
set_option maxRecDepth 100000 in
set_option maxHeartbeats 8000000 in
theorem spec_l3Deferred (S : HP) (w : World) [H : SepI w S] (A : Option Addr) (c : Nat) (t : List Ev) [r : Rd S A (cEvs t)] (ht : t.length ≤ 1000) (cs : List C5) (os : List Int) (now : Int) (hr3 : read3 t = some ⟨cs, os, now⟩) (hol : os.length = t.length) (hcl : cs.length ≤ 1000) (call : Int) :
    Calls Try.prog 75 #[.slice A t.length c, .int .i64 call] w (A2Post S (defA t os call) w) := by
  obtain ⟨m, hm⟩ : ∃ m, m = t.length := ⟨_, rfl⟩
  have HM := Hd.mk hm
  have HMO : Hd (os.length = m) := ⟨by rw [hol, hm]⟩
  have HR3 := Hd.mk hr3
  obtain ⟨O, hO⟩ : ∃ O : Nat → List (Int × Int), O = fun i => ((t.zip os).take i).filterMap (defF call) := ⟨_, rfl⟩
  have HO0 : Hd (O 0 = []) := ⟨by rw [hO]; rfl⟩
  have HOM : Hd (O m = defA t os call) := ⟨by rw [hO, hm]; simp only; rw [zip_take_all hol]; rfl⟩
  have HOY : Hd (∀ (i : Nat) (e : Ev) (p : Int), t[i]? = some e → os[i]? = some p → e.k = 2 → p = call → O (i + 1) = O i ++ [(e.f, e.v)]) := ⟨fun i e p h1 h2 hk hp => by
    rw [hO]; exact fm_yes (zip_get h1 h2) (by unfold defF; simp only; rw [if_pos ⟨hk, hp⟩])⟩
  have HON : Hd (∀ (i : Nat) (e : Ev) (p : Int), t[i]? = some e → os[i]? = some p → ¬ (e.k = 2 ∧ p = call) → O (i + 1) = O i) := ⟨fun i e p h1 h2 hk => by
    rw [hO]; exact fm_no (zip_get h1 h2) (by unfold defF; simp only; rw [if_neg hk])⟩
  have HOL : Hd (∀ i : Nat, (O i).length ≤ 1000) := ⟨fun i => by
    rw [hO]
    have h1 := fm_len (defF call) (t.zip os) i
    have h2 : (t.zip os).length ≤ t.length := by rw [List.length_zip]; omega
    simp only
    omega⟩
  rw [← HOM.out, ← hm]
  rw [← hm] at ht
  clear hm hO hr3 hol
  obtain ⟨be, hbe⟩ : ∃ be, be = w.heap.size := ⟨_, rfl⟩
  have hlit : SepI (w.alloc (.cells #[] 98 (0, 0))) (Row 98 2 (.slice (some ⟨w.heap.size, 0, none⟩) 0 0) 0 [] * S) := Row.lit0 (SepI.i_alloc w (.cells #[] 98 (0, 0)) S _)
  have HBE := Hd.mk hbe
  go_enter Try.func75, Try.ntmps75
  go_wp2_with fail
  have hC := @spec_l3Read _ _ hlit A c t inferInstance (by rw [← HM.out]; exact ht) cs os now HR3.out
  rw [← HM.out] at hC
  refine hC.mono ?_
  clear hC
  rintro e w1 ⟨Ac, cc, Ao, oc, rfl, HP⟩
  rw [HMO.out] at HP ⊢
  rw [← hbe] at HP
  have HS1 := HP.sep
  have HE1 := HP.ext
  clear HP hlit hbe
  obtain ⟨bt, hbt⟩ : ∃ bt, bt = w1.heap.size := ⟨_, rfl⟩
  have HBT := Hd.mk hbt
  clear hbt
  go_wp2
  try rw [← HBT.out]
  try rw [← HBE.out]
  go_loopw [5, 7] (fun v3 v4 wr => ∃ (i : Nat) (vv : Value), i ≤ m ∧ v4 = .int .i64 i ∧ v3 = vv ∧ ExtI w wr ∧ SepI wr (Row 98 2 vv (O i).length (cPr (O i)) * (pts bt (.cells #[.slice Ac cs.length cc, .slice Ao m oc] 96 (0, 0)) * (Row 89 5 (.slice Ac cs.length cc) cs.length (cC5s cs) * (Row 3 1 (.slice Ao m oc) m (ints os) * S))))) (fun _ v _ => m - (intOf v).toNat)
  case atStart => exact ⟨0, .slice (some ⟨be, 0, none⟩) 0 0, Nat.zero_le _, rfl, rfl, inferInstance, SepI.cast (Ent.sep (S := _) (T := Row 98 2 (.slice (some ⟨be, 0, none⟩) 0 0) 0 [] * (pts w1.heap.size (.cells #[.slice Ac cs.length cc, .slice Ao m oc] 96 (0, 0)) * (Row 89 5 (.slice Ac cs.length cc) cs.length (cC5s cs) * (Row 3 1 (.slice Ao m oc) m (ints os) * S)))) inferInstance inferInstance) (by rw [HO0.out, HBT.out]; rfl)⟩
  case round =>
    obtain ⟨i, vv, hi, rfl, rfl, HX, HS3⟩ := hrel
    by_cases hlt : i < m
    · obtain ⟨ev, hs1⟩ := get_ex (xs := t) (k := i) (by rw [← HM.out]; exact hlt)
      obtain ⟨ow, hs2⟩ := get_ex (xs := os) (k := i) (by rw [HMO.out]; exact hlt)
      obtain ⟨bp, op, rfl⟩ := r.addr H (j := i) (by rw [cEvs_len, ← HM.out]; omega)
      have e1 := r.cell (cEvs_get hs1).1
      have e2 := r.cell (cEvs_get hs1).2.1
      have e3 := r.cell (cEvs_get hs1).2.2
      obtain ⟨A0, c0, rfl, hc0, hc1⟩ := Row.form HS3
      obtain ⟨q, hq⟩ : ∃ q, (ev.k == 2) = q := ⟨_, rfl⟩
      have HQ := Hd.mk hq
      have hol := HOL.out i
      cases q
      · have HNX := Hd.mk (HON.out i ev ow hs1 hs2 (fun h => by have := h.1; have := HQ.out; simp_all))
        clear hs1 hs2
        go_wp2
        go_roundw
        case rel => exact ⟨i + 1, .slice A0 (O i).length c0, by omega, by go_num, rfl, inferInstance, SepI.cast (Ent.sep (S := _) (T := Row 98 2 (.slice A0 (O i).length c0) (O i).length (cPr (O i)) * (pts bt (.cells #[.slice Ac cs.length cc, .slice Ao m oc] 96 (0, 0)) * (Row 89 5 (.slice Ac cs.length cc) cs.length (cC5s cs) * (Row 3 1 (.slice Ao m oc) m (ints os) * S)))) inferInstance inferInstance) (by rw [HNX.out])⟩
        case measure => (simp [intOf]; try omega)
      · obtain ⟨go, rfl⟩ := Row.addr HS3.right.right.right (by omega)
        have d1 : ∀ F, CellAt (Row 3 1 (.slice (some ⟨go, 0, none⟩) m oc) m (ints os) * F) go i (.int .i64 ow) := fun F => Row.cellAt (ints_get hs2)
        obtain ⟨q2, hq2⟩ : ∃ q2, (ow == call) = q2 := ⟨_, rfl⟩
        have HQ2 := Hd.mk hq2
        cases q2
        · have HNX := Hd.mk (HON.out i ev ow hs1 hs2 (fun h => by have h2 := HQ2.out; simp [h.2] at h2))
          clear hs1 hs2
          go_wp2
          go_roundw
          case rel => exact ⟨i + 1, .slice A0 (O i).length c0, by omega, by go_num, rfl, inferInstance, SepI.cast (Ent.sep (S := _) (T := Row 98 2 (.slice A0 (O i).length c0) (O i).length (cPr (O i)) * (pts bt (.cells #[.slice Ac cs.length cc, .slice (some ⟨go, 0, none⟩) m oc] 96 (0, 0)) * (Row 89 5 (.slice Ac cs.length cc) cs.length (cC5s cs) * (Row 3 1 (.slice (some ⟨go, 0, none⟩) m oc) m (ints os) * S)))) inferInstance inferInstance) (by rw [HNX.out])⟩
          case measure => (simp [intOf]; try omega)
        · have HNX := HOY.out i ev ow hs1 hs2 (by simpa using HQ.out) (by have := HQ2.out; simpa using this)
          have HOO : Hd (cPr (O i) ++ #[.int .i64 ev.f, .int .i64 ev.v].toList = cPr (O (i + 1))) := ⟨by rw [HNX, cPr_snoc]⟩
          have HLL : Hd ((O i).length + 1 = (O (i + 1)).length) := ⟨by rw [HNX]; simp⟩
          clear hs1 hs2 HNX
          go_wp2
          refine wp_region_W 13 15 (by kernel_rfl) (by kernel_rfl) (fun w' => w'.cell? ⟨bp, op + i * 3 + 1, none⟩ = some (.int .i64 ev.f) ∧ w'.cell? ⟨bp, op + i * 3 + 2, none⟩ = some (.int .i64 ev.v)) ⟨cell_at _ _ _ _ _, cell_at _ _ _ _ _⟩ (fun hHeld => ?_)
          refine tkp 0 hHeld ?_
          refine tkp 1 hHeld ?_
          refine tkp 2 hHeld ?_
          refine tkp 3 hHeld ?_
          refine tkp 4 hHeld ?_
          refine tkl 5 hHeld ?_
          refine tkp 6 hHeld ?_
          refine tkp 7 hHeld ?_
          refine tkp 8 hHeld ?_
          refine tkp 9 hHeld ?_
          refine tkl 10 hHeld ?_
          refine tkp 11 hHeld ?_
          refine wpAnyW_one false (i := 12) (by kernel_rfl) rfl (by kernel_rfl) (by rfl) (fun KK hKK => ?_)
          refine st_list rfl ?_
          go_wp2
          refine ⟨rfl, ?_⟩
          refine hKK.out _ _ (.inr ⟨cell_at _ _ _ _ _, cell_at _ _ _ _ _⟩) (fun hHeld => ?_)
          clear hKK KK
          try simp only [Act.put, List.setIfInBounds_toArray, List.set_cons_zero, List.set_cons_succ]
          refine wpAnyW_done (by kernel_rfl) ?_
          refine ev_append (v := .slice A0 (O i).length c0) rfl _ _ 53 rfl ?_ 16 _ Try.underlying53 info_pr rfl (by decide) (by decide) (wr.heap.size) 1 1 ?_ rfl (by simp [Value.oneCell']) (by omega) ?_
          rfl
          rfl
          intro v1 w4 HS4 HE4
          replace HS4 := Row.as HS4 HLL.out HOO.out
          go_wp2
          go_roundw
          case rel => exact ⟨i + 1, v1, by omega, by go_num, rfl, inferInstance, Ent.sep (S := _) (T := Row 98 2 v1 (O (i + 1)).length (cPr (O (i + 1))) * (pts bt (.cells #[.slice Ac cs.length cc, .slice (some ⟨go, 0, none⟩) m oc] 96 (0, 0)) * (Row 89 5 (.slice Ac cs.length cc) cs.length (cC5s cs) * (Row 3 1 (.slice (some ⟨go, 0, none⟩) m oc) m (ints os) * S)))) inferInstance HS4⟩
          case measure => (simp [intOf]; try omega)
    · have : i = m := by omega
      subst this
      obtain ⟨A0, c0, rfl, hc0, hc1⟩ := Row.form HS3
      go_wp2
      go_ret
      exact ⟨A0, c0, rfl, Post.mk' (Ent.sep (S := _) inferInstance inferInstance) inferInstance⟩
set_option maxRecDepth 100000 in
set_option maxHeartbeats 8000000 in
theorem spec_l3RunBy (S : HP) (w : World) [H : SepI w S] (A : Option Addr) (c : Nat) (t : List Ev) [r : Rd S A (cEvs t)] (ht : t.length ≤ 1000) (cs : List C5) (os : List Int) (now : Int) (hr3 : read3 t = some ⟨cs, os, now⟩) (hol : os.length = t.length) (hcl : cs.length ≤ 1000) (call : Int)
    (hown : ∀ (i : Nat) (e : Ev) (o : Int), t[i]? = some e → os[i]? = some o → e.k = 3 → ∃ j : Nat, o = j ∧ j < cs.length) :
    Calls Try.prog 78 #[.slice A t.length c, .int .i64 call] w (A2Post S (runA t os cs call) w) := by
  obtain ⟨m, hm⟩ : ∃ m, m = t.length := ⟨_, rfl⟩
  have HM := Hd.mk hm
  have HMO : Hd (os.length = m) := ⟨by rw [hol, hm]⟩
  have HR3 := Hd.mk hr3
  have HOW := Hd.mk hown
  clear hown
  obtain ⟨O, hO⟩ : ∃ O : Nat → List (Int × Int), O = fun i => ((t.zip os).take i).filterMap (runF cs call) := ⟨_, rfl⟩
  have HO0 : Hd (O 0 = []) := ⟨by rw [hO]; rfl⟩
  have HOM : Hd (O m = runA t os cs call) := ⟨by rw [hO, hm]; simp only; rw [zip_take_all hol]; rfl⟩
  have HOY : Hd (∀ (i : Nat) (e : Ev) (p : Int), t[i]? = some e → os[i]? = some p → e.k = 3 → upAt cs p = call → O (i + 1) = O i ++ [(e.f, e.v)]) := ⟨fun i e p h1 h2 hk hp => by
    rw [hO]; exact fm_yes (zip_get h1 h2) (by unfold runF; simp only; rw [if_pos ⟨hk, hp⟩])⟩
  have HON : Hd (∀ (i : Nat) (e : Ev) (p : Int), t[i]? = some e → os[i]? = some p → ¬ (e.k = 3 ∧ upAt cs p = call) → O (i + 1) = O i) := ⟨fun i e p h1 h2 hk => by
    rw [hO]; exact fm_no (zip_get h1 h2) (by unfold runF; simp only; rw [if_neg hk])⟩
  have HOL : Hd (∀ i : Nat, (O i).length ≤ 1000) := ⟨fun i => by
    rw [hO]
    have h1 := fm_len (runF cs call) (t.zip os) i
    have h2 : (t.zip os).length ≤ t.length := by rw [List.length_zip]; omega
    simp only
    omega⟩
  rw [← HOM.out, ← hm]
  rw [← hm] at ht
  clear hm hO hr3 hol
  obtain ⟨be, hbe⟩ : ∃ be, be = w.heap.size := ⟨_, rfl⟩
  have hlit : SepI (w.alloc (.cells #[] 98 (0, 0))) (Row 98 2 (.slice (some ⟨w.heap.size, 0, none⟩) 0 0) 0 [] * S) := Row.lit0 (SepI.i_alloc w (.cells #[] 98 (0, 0)) S _)
  have HBE := Hd.mk hbe
  go_enter Try.func78, Try.ntmps78
  go_wp2_with fail
  have hC := @spec_l3Read _ _ hlit A c t inferInstance (by rw [← HM.out]; exact ht) cs os now HR3.out
  rw [← HM.out] at hC
  refine hC.mono ?_
  clear hC
  rintro e w1 ⟨Ac, cc, Ao, oc, rfl, HP⟩
  rw [HMO.out] at HP ⊢
  rw [← hbe] at HP
  have HS1 := HP.sep
  have HE1 := HP.ext
  clear HP hlit hbe
  obtain ⟨bt, hbt⟩ : ∃ bt, bt = w1.heap.size := ⟨_, rfl⟩
  have HBT := Hd.mk hbt
  clear hbt
  go_wp2
  try rw [← HBT.out]
  try rw [← HBE.out]
  go_loopw [5, 7] (fun v3 v4 wr => ∃ (i : Nat) (vv : Value), i ≤ m ∧ v4 = .int .i64 i ∧ v3 = vv ∧ ExtI w wr ∧ SepI wr (Row 98 2 vv (O i).length (cPr (O i)) * (pts bt (.cells #[.slice Ac cs.length cc, .slice Ao m oc] 96 (0, 0)) * (Row 89 5 (.slice Ac cs.length cc) cs.length (cC5s cs) * (Row 3 1 (.slice Ao m oc) m (ints os) * S))))) (fun _ v _ => m - (intOf v).toNat)
  case atStart => exact ⟨0, .slice (some ⟨be, 0, none⟩) 0 0, Nat.zero_le _, rfl, rfl, inferInstance, SepI.cast (Ent.sep (S := _) (T := Row 98 2 (.slice (some ⟨be, 0, none⟩) 0 0) 0 [] * (pts w1.heap.size (.cells #[.slice Ac cs.length cc, .slice Ao m oc] 96 (0, 0)) * (Row 89 5 (.slice Ac cs.length cc) cs.length (cC5s cs) * (Row 3 1 (.slice Ao m oc) m (ints os) * S)))) inferInstance inferInstance) (by rw [HO0.out, HBT.out]; rfl)⟩
  case round =>
    obtain ⟨i, vv, hi, rfl, rfl, HX, HS3⟩ := hrel
    by_cases hlt : i < m
    · obtain ⟨ev, hs1⟩ := get_ex (xs := t) (k := i) (by rw [← HM.out]; exact hlt)
      obtain ⟨ow, hs2⟩ := get_ex (xs := os) (k := i) (by rw [HMO.out]; exact hlt)
      obtain ⟨bp, op, rfl⟩ := r.addr H (j := i) (by rw [cEvs_len, ← HM.out]; omega)
      have e1 := r.cell (cEvs_get hs1).1
      have e2 := r.cell (cEvs_get hs1).2.1
      have e3 := r.cell (cEvs_get hs1).2.2
      obtain ⟨A0, c0, rfl, hc0, hc1⟩ := Row.form HS3
      obtain ⟨q, hq⟩ : ∃ q, (ev.k == 3) = q := ⟨_, rfl⟩
      have HQ := Hd.mk hq
      have hol := HOL.out i
      cases q
      · have HNX := Hd.mk (HON.out i ev ow hs1 hs2 (fun h => by have := h.1; have := HQ.out; simp_all))
        clear hs1 hs2
        go_wp2
        go_quiet (fail)
        go_wp2
        go_roundw
        case rel => exact ⟨i + 1, .slice A0 (O i).length c0, by omega, by go_num, rfl, inferInstance, SepI.cast (Ent.sep (S := _) (T := Row 98 2 (.slice A0 (O i).length c0) (O i).length (cPr (O i)) * (pts bt (.cells #[.slice Ac cs.length cc, .slice Ao m oc] 96 (0, 0)) * (Row 89 5 (.slice Ac cs.length cc) cs.length (cC5s cs) * (Row 3 1 (.slice Ao m oc) m (ints os) * S)))) inferInstance inferInstance) (by rw [HNX.out])⟩
        case measure => (simp [intOf]; try omega)
      · obtain ⟨go, rfl⟩ := Row.addr HS3.right.right.right (by omega)
        have d1 : ∀ F, CellAt (Row 3 1 (.slice (some ⟨go, 0, none⟩) m oc) m (ints os) * F) go i (.int .i64 ow) := fun F => Row.cellAt (ints_get hs2)
        obtain ⟨j, rfl, hj⟩ := HOW.out i ev ow hs1 hs2 (by simpa using HQ.out)
        obtain ⟨x, hx⟩ := get_ex hj
        obtain ⟨gc, rfl⟩ := Row.addr HS3.right.right (by omega)
        have d2 : ∀ F, CellAt (Row 89 5 (.slice (some ⟨gc, 0, none⟩) cs.length cc) cs.length (cC5s cs) * F) gc (j * 5 + 1) (.int .i64 x.up) := fun F => Row.cellAt (cC5s_get hx).2.1
        obtain ⟨q2, hq2⟩ : ∃ q2, (x.up == call) = q2 := ⟨_, rfl⟩
        have HUP : Hd (upAt cs (j : Int) = x.up) := ⟨upAt_get hx⟩
        have HQ2 := Hd.mk hq2
        clear hx
        cases q2
        · have HNX := Hd.mk (HON.out i ev (j : Int) hs1 hs2 (fun h => by rw [HUP.out] at h; have h2 := HQ2.out; simp [h.2] at h2))
          clear hs1 hs2
          go_wp2
          go_quiet (fail)
          go_wp2
          go_roundw
          case rel => exact ⟨i + 1, .slice A0 (O i).length c0, by omega, by go_num, rfl, inferInstance, SepI.cast (Ent.sep (S := _) (T := Row 98 2 (.slice A0 (O i).length c0) (O i).length (cPr (O i)) * (pts bt (.cells #[.slice (some ⟨gc, 0, none⟩) cs.length cc, .slice (some ⟨go, 0, none⟩) m oc] 96 (0, 0)) * (Row 89 5 (.slice (some ⟨gc, 0, none⟩) cs.length cc) cs.length (cC5s cs) * (Row 3 1 (.slice (some ⟨go, 0, none⟩) m oc) m (ints os) * S)))) inferInstance inferInstance) (by rw [HNX.out])⟩
          case measure => (simp [intOf]; try omega)
        · have HNX := HOY.out i ev (j : Int) hs1 hs2 (by simpa using HQ.out) (by rw [HUP.out]; have := HQ2.out; simpa using this)
          have HOO : Hd (cPr (O i) ++ #[.int .i64 ev.f, .int .i64 ev.v].toList = cPr (O (i + 1))) := ⟨by rw [HNX, cPr_snoc]⟩
          have HLL : Hd ((O i).length + 1 = (O (i + 1)).length) := ⟨by rw [HNX]; simp⟩
          clear hs1 hs2 HNX
          go_wp2
          go_quiet (fail)
          go_wp2
          refine wp_region_W 13 15 (by kernel_rfl) (by kernel_rfl) (fun w' => w'.cell? ⟨bp, op + i * 3 + 1, none⟩ = some (.int .i64 ev.f) ∧ w'.cell? ⟨bp, op + i * 3 + 2, none⟩ = some (.int .i64 ev.v)) ⟨cell_at _ _ _ _ _, cell_at _ _ _ _ _⟩ (fun hHeld => ?_)
          refine tkp 0 hHeld ?_
          refine tkp 1 hHeld ?_
          refine tkp 2 hHeld ?_
          refine tkp 3 hHeld ?_
          refine tkp 4 hHeld ?_
          refine tkl 5 hHeld ?_
          refine tkp 6 hHeld ?_
          refine tkp 7 hHeld ?_
          refine tkp 8 hHeld ?_
          refine tkp 9 hHeld ?_
          refine tkl 10 hHeld ?_
          refine tkp 11 hHeld ?_
          refine wpAnyW_one false (i := 12) (by kernel_rfl) rfl (by kernel_rfl) (by rfl) (fun KK hKK => ?_)
          refine st_list rfl ?_
          go_wp2
          refine ⟨rfl, ?_⟩
          refine hKK.out _ _ (.inr ⟨cell_at _ _ _ _ _, cell_at _ _ _ _ _⟩) (fun hHeld => ?_)
          clear hKK KK
          try simp only [Act.put, List.setIfInBounds_toArray, List.set_cons_zero, List.set_cons_succ]
          refine wpAnyW_done (by kernel_rfl) ?_
          refine ev_append (v := .slice A0 (O i).length c0) rfl _ _ 53 rfl ?_ 16 _ Try.underlying53 info_pr rfl (by decide) (by decide) (wr.heap.size) 1 1 ?_ rfl (by simp [Value.oneCell']) (by omega) ?_
          rfl
          rfl
          intro v1 w4 HS4 HE4
          replace HS4 := Row.as HS4 HLL.out HOO.out
          go_wp2
          go_roundw
          case rel => exact ⟨i + 1, v1, by omega, by go_num, rfl, inferInstance, Ent.sep (S := _) (T := Row 98 2 v1 (O (i + 1)).length (cPr (O (i + 1))) * (pts bt (.cells #[.slice (some ⟨gc, 0, none⟩) cs.length cc, .slice (some ⟨go, 0, none⟩) m oc] 96 (0, 0)) * (Row 89 5 (.slice (some ⟨gc, 0, none⟩) cs.length cc) cs.length (cC5s cs) * (Row 3 1 (.slice (some ⟨go, 0, none⟩) m oc) m (ints os) * S)))) inferInstance HS4⟩
          case measure => (simp [intOf]; try omega)
    · have : i = m := by omega
      subst this
      obtain ⟨A0, c0, rfl, hc0, hc1⟩ := Row.form HS3
      go_wp2
      go_ret
      exact ⟨A0, c0, rfl, Post.mk' (Ent.sep (S := _) inferInstance inferInstance) inferInstance⟩
end Go.Proofs.Ythnaoedlnificaa
