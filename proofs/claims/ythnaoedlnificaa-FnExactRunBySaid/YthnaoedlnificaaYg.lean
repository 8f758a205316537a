/- The calls that recoveries save, by the reference. Conditions: lengths within bounds. -/
import Derived.Test.YthnaoedlnificaaYf
namespace Go.Proofs.Ythnaoedlnificaa
open Go.RowKit SL
attribute [local go_sem] cell_blk frozen_blk lt_blk cell_at frozen_row lt_row
set_option linter.unusedVariables false
set_option linter.unusedSimpArgs false

theorem zip_get {α β : Type} {l : List α} {m : List β} {i : Nat} {a : α} {b : β} (h1 : l[i]? = some a) (h2 : m[i]? = some b) : (l.zip m)[i]? = some (a, b) := by rw [List.getElem?_zip_eq_some]; exact ⟨h1, h2⟩
theorem zip_take_all {α β : Type} {l : List α} {m : List β} (h : m.length = l.length) : (l.zip m).take l.length = l.zip m := by rw [List.take_of_length_le (by rw [List.length_zip]; omega)]
set_option maxRecDepth 100000 in
set_option maxHeartbeats 8000000 in
theorem spec_l5Saved (S : HP) (w : World) [H : SepI w S] (A : Option Addr) (c : Nat) (t : List Ev) [r : Rd S A (cEvs t)] (ht : t.length ≤ 1000) (cs : List C5) (os : List Int) (now : Int) (hr3 : read3 t = some ⟨cs, os, now⟩) (hol : os.length = t.length) (hcl : cs.length ≤ 1000)
    (hown : ∀ (i : Nat) (e : Ev) (o : Int), t[i]? = some e → os[i]? = some o → e.k = 6 → ∃ j : Nat, o = j ∧ j < cs.length) :
    Calls Try.prog 80 #[.slice A t.length c] w (IntsPost S (savA t os cs) w) := by
  obtain ⟨m, hm⟩ : ∃ m, m = t.length := ⟨_, rfl⟩
  have HM := Hd.mk hm
  have HMO : Hd (os.length = m) := ⟨by rw [hol, hm]⟩
  have HR3 := Hd.mk hr3
  have HOW := Hd.mk hown
  obtain ⟨O, hO⟩ : ∃ O : Nat → List Int, O = fun i => ((t.zip os).take i).filterMap (savF cs) := ⟨_, rfl⟩
  have HO0 : Hd (O 0 = []) := ⟨by rw [hO]; rfl⟩
  have HOM : Hd (O m = savA t os cs) := ⟨by rw [hO, hm]; simp only; rw [zip_take_all hol]; rfl⟩
  have HOY : Hd (∀ (i : Nat) (e : Ev) (j : Nat) (x : C5), t[i]? = some e → os[i]? = some (j : Int) → cs[j]? = some x → (e.k == 6) = true → O (i + 1) = O i ++ [x.up]) := ⟨fun i e j x h1 h2 h3 hk => by
    rw [hO]; exact fm_yes (zip_get h1 h2) (by unfold savF; simp only; rw [if_pos (by simpa using hk), upAt_get h3])⟩
  have HON : Hd (∀ (i : Nat) (e : Ev) (p : Int), t[i]? = some e → os[i]? = some p → (e.k == 6) = false → O (i + 1) = O i) := ⟨fun i e p h1 h2 hk => by
    rw [hO]; exact fm_no (zip_get h1 h2) (by unfold savF; simp only; rw [if_neg (by simpa using hk)])⟩
  have HOL : Hd (∀ i : Nat, (O i).length ≤ 1000) := ⟨fun i => by
    rw [hO]
    have h1 := fm_len (savF cs) (t.zip os) i
    have h2 : (t.zip os).length ≤ t.length := by rw [List.length_zip]; omega
    simp only
    omega⟩
  rw [← HOM.out, ← hm]
  rw [← hm] at ht
  clear hm hO hr3 hown hol
  obtain ⟨be, hbe⟩ : ∃ be, be = w.heap.size := ⟨_, rfl⟩
  have hlit : SepI (w.alloc (.cells #[] 3 (0, 0))) (Row 3 1 (.slice (some ⟨w.heap.size, 0, none⟩) 0 0) 0 [] * S) := Row.lit0 (SepI.i_alloc w (.cells #[] 3 (0, 0)) S _)
  have HBE := Hd.mk hbe
  go_enter Try.func80, Try.ntmps80
  go_wp2_with fail
  have hC := @spec_l3Read _ _ hlit A c t inferInstance (by rw [← HM.out]; exact ht) cs os now HR3.out
  rw [← HM.out] at hC
  refine hC.mono ?_
  clear hC
  rintro e w1 ⟨Ac, cc, Ao, oc, rfl, HP⟩
  rw [HMO.out] at HP ⊢
  rw [← hbe] at HP
  have HS1 := HP.sep
  have HE1 := HP.ext
  clear HP hlit hbe
  obtain ⟨bt, hbt⟩ : ∃ bt, bt = w1.heap.size := ⟨_, rfl⟩
  have HBT := Hd.mk hbt
  clear hbt
  go_wp2
  try rw [← HBT.out]
  try rw [← HBE.out]
  go_loopw [3, 5] (fun v3 v4 wr => ∃ (i : Nat) (vv : Value), i ≤ m ∧ v4 = .int .i64 i ∧ v3 = vv ∧ ExtI w wr ∧ SepI wr (Row 3 1 vv (O i).length (ints (O i)) * (pts bt (.cells #[.slice Ac cs.length cc, .slice Ao m oc] 96 (0, 0)) * (Row 89 5 (.slice Ac cs.length cc) cs.length (cC5s cs) * (Row 3 1 (.slice Ao m oc) m (ints os) * S))))) (fun _ v _ => m - (intOf v).toNat)
  case atStart => exact ⟨0, .slice (some ⟨be, 0, none⟩) 0 0, Nat.zero_le _, rfl, rfl, inferInstance, SepI.cast (Ent.sep (S := _) (T := Row 3 1 (.slice (some ⟨be, 0, none⟩) 0 0) 0 [] * (pts w1.heap.size (.cells #[.slice Ac cs.length cc, .slice Ao m oc] 96 (0, 0)) * (Row 89 5 (.slice Ac cs.length cc) cs.length (cC5s cs) * (Row 3 1 (.slice Ao m oc) m (ints os) * S)))) inferInstance inferInstance) (by rw [HO0.out, HBT.out]; rfl)⟩
  case round =>
    obtain ⟨i, vv, hi, rfl, rfl, HX, HS3⟩ := hrel
    by_cases hlt : i < m
    · obtain ⟨ev, hs1⟩ := get_ex (xs := t) (k := i) (by rw [← HM.out]; exact hlt)
      obtain ⟨ow, hs2⟩ := get_ex (xs := os) (k := i) (by rw [HMO.out]; exact hlt)
      obtain ⟨bp, op, rfl⟩ := r.addr H (j := i) (by rw [cEvs_len, ← HM.out]; omega)
      have e1 := r.cell (cEvs_get hs1).1
      have e2 := r.cell (cEvs_get hs1).2.1
      have e3 := r.cell (cEvs_get hs1).2.2
      obtain ⟨A0, c0, rfl, hc0, hc1⟩ := Row.form HS3
      obtain ⟨q, hq⟩ : ∃ q, (ev.k == 6) = q := ⟨_, rfl⟩
      have HQ := Hd.mk hq
      have hol := HOL.out i
      cases q
      · have HNX := Hd.mk (HON.out i ev ow hs1 hs2 HQ.out)
        clear hs1 hs2
        go_wp2
        go_roundw
        case rel => exact ⟨i + 1, .slice A0 (O i).length c0, by omega, by go_num, rfl, inferInstance, SepI.cast (Ent.sep (S := _) (T := Row 3 1 (.slice A0 (O i).length c0) (O i).length (ints (O i)) * (pts bt (.cells #[.slice Ac cs.length cc, .slice Ao m oc] 96 (0, 0)) * (Row 89 5 (.slice Ac cs.length cc) cs.length (cC5s cs) * (Row 3 1 (.slice Ao m oc) m (ints os) * S)))) inferInstance HS3) (by rw [HNX.out])⟩
        case measure => (simp [intOf]; try omega)
      · obtain ⟨j, rfl, hj⟩ := HOW.out i ev ow hs1 hs2 (by simpa using HQ.out)
        obtain ⟨x, hx⟩ := get_ex hj
        have HNX := HOY.out i ev j x hs1 hs2 hx HQ.out
        have HOO : Hd (ints (O i) ++ #[.int .i64 x.up].toList = ints (O (i + 1))) := ⟨by rw [HNX, ints_append]; rfl⟩
        have HLL : Hd ((O i).length + 1 = (O (i + 1)).length) := ⟨by rw [HNX]; simp⟩
        clear HNX
        obtain ⟨gc, rfl⟩ := Row.addr HS3.right.right (by omega)
        obtain ⟨go, rfl⟩ := Row.addr HS3.right.right.right (by omega)
        have d1 : ∀ F, CellAt (Row 3 1 (.slice (some ⟨go, 0, none⟩) m oc) m (ints os) * F) go i (.int .i64 (j : Int)) := fun F => Row.cellAt (ints_get hs2)
        have d2 : ∀ F, CellAt (Row 89 5 (.slice (some ⟨gc, 0, none⟩) cs.length cc) cs.length (cC5s cs) * F) gc (j * 5 + 1) (.int .i64 x.up) := fun F => Row.cellAt (cC5s_get hx).2.1
        clear hs1 hs2 hx
        go_wp2
        refine wp_region_W 12 14 (by kernel_rfl) (by kernel_rfl) (fun w' => w'.cell? ⟨bt, 0, none⟩ = some (.slice (some ⟨gc, 0, none⟩) cs.length cc) ∧ w'.cell? ⟨bt, 1, none⟩ = some (.slice (some ⟨go, 0, none⟩) m oc) ∧ w'.cell? ⟨go, i, none⟩ = some (.int .i64 (j : Int)) ∧ w'.cell? ⟨gc, j * 5 + 1, none⟩ = some (.int .i64 x.up)) ⟨cb, cb, cell_at _ _ _ _ _, cell_at _ _ _ _ _⟩ (fun hHeld => ?_)
        refine tkp 0 hHeld ?_
        refine tkp 1 hHeld ?_
        refine tkl 2 hHeld ?_
        refine tkp 3 hHeld ?_
        refine tkl 4 hHeld ?_
        refine tkp 5 hHeld ?_
        refine tkp 6 hHeld ?_
        refine tkl 7 hHeld ?_
        refine tkp 8 hHeld ?_
        refine tkp 9 hHeld ?_
        refine tkl 10 hHeld ?_
        refine wpAnyW_one false (i := 11) (by kernel_rfl) rfl (by kernel_rfl) (by rfl) (fun KK hKK => ?_)
        refine st_list rfl ?_
        go_wp2
        refine ⟨rfl, ?_⟩
        refine hKK.out _ _ (.inr ⟨cb, cb, cell_at _ _ _ _ _, cell_at _ _ _ _ _⟩) (fun hHeld => ?_)
        clear hKK KK
        try simp only [Act.put, List.setIfInBounds_toArray, List.set_cons_zero, List.set_cons_succ]
        refine wpAnyW_done (by kernel_rfl) ?_
        refine ev_append (v := .slice A0 (O i).length c0) rfl _ _ 48 rfl rfl 8 _ Try.underlying48 info_int rfl (by decide) (by decide) (wr.heap.size) 1 1 rfl rfl (by simp [Value.oneCell']) (by omega) ?_
        intro v1 w4 HS4 HE4
        replace HS4 := Row.as HS4 HLL.out HOO.out
        go_wp2
        go_roundw
        case rel => exact ⟨i + 1, v1, by omega, by go_num, rfl, inferInstance, Ent.sep (S := _) (T := Row 3 1 v1 (O (i + 1)).length (ints (O (i + 1))) * (pts bt (.cells #[.slice (some ⟨gc, 0, none⟩) cs.length cc, .slice (some ⟨go, 0, none⟩) m oc] 96 (0, 0)) * (Row 89 5 (.slice (some ⟨gc, 0, none⟩) cs.length cc) cs.length (cC5s cs) * (Row 3 1 (.slice (some ⟨go, 0, none⟩) m oc) m (ints os) * S)))) inferInstance HS4⟩
        case measure => (simp [intOf]; try omega)
    · have : i = m := by omega
      subst this
      obtain ⟨A0, c0, rfl, hc0, hc1⟩ := Row.form HS3
      go_wp2
      go_ret
      exact IntsPost.of (v := .slice A0 (O i).length c0) (Post.mk' (Ent.sep (S := _) inferInstance inferInstance) inferInstance)
set_option maxRecDepth 100000 in
set_option maxHeartbeats 8000000 in
theorem spec_SavedCallsN (S : HP) (w : World) [H : SepI w S] (A : Option Addr) (c : Nat) (bs : List Bd) [r : Rd S A (cBds bs)] [B : Bodies S bs] (fn arg fuel : Int) (hv : askB (bs.map (·.l)) fn arg fuel = false) :
    Calls Try.prog 54 #[.agg #[.slice A bs.length c], .int .i64 fn, .int .i64 arg, .int .i64 fuel] w (IntsOk S [] false w) := by
  have hbn := B.n
  have HV := Hd.mk hv
  clear hv
  have hnot : ∀ (x : Bool) (w : World), (Op.unary .not (.bool x)).run Try.prog w = .ok (.bool (!x)) w := fun _ _ => rfl
  go_enter Try.func54, Try.ntmps54
  go_wp2_with fail
  refine (spec_l2Ask _ _ A c bs fn arg fuel _ HV.out).mono ?_
  rintro e w1 ⟨rfl, HP⟩
  have HS1 := HP.sep
  have HE1 := HP.ext
  clear HP
  go_wp2
  go_ret2
  exact IntsOk.nil (v := .slice (some ⟨w1.heap.size, 0, none⟩) 0 0) (Post.mk' (Ent.sep (S := _) inferInstance (Row.lit0 (size := 1) (SepI.i_alloc w1 (.cells #[] 3 (0, 0)) _ _))) inferInstance)
set_option maxRecDepth 100000 in
set_option maxHeartbeats 8000000 in
theorem spec_SavedCallsV (S : HP) (w : World) [H : SepI w S] (A : Option Addr) (c : Nat) (bs : List Bd) [r : Rd S A (cBds bs)] [B : Bodies S bs] (hnn : NoneNil bs) (fn arg : Int) (fu : Nat) (L : List (List St)) (hbs : bs.map (·.l) = L) (hv : askB L fn arg fu = true) :
    Calls Try.prog 54 #[.agg #[.slice A bs.length c], .int .i64 fn, .int .i64 arg, .int .i64 fu] w (IntsOk S ((ranM L fn arg fu).m.recs.map (·.sa)) true w) := by
  have HNN := Hd.mk hnn
  have HV2 : Hd (askB (bs.map (·.l)) fn arg fu = true) := ⟨by rw [hbs]; exact hv⟩
  clear hnn
  have hbn := B.n
  have HV := Hd.mk hv
  have HB := Hd.mk hbs
  have HF := Hd.mk (factsB hv)
  clear hv hbs
  obtain ⟨R, hR⟩ : ∃ R, ranM L fn arg fu = R := ⟨_, rfl⟩
  have HR := Hd.mk hR
  rw [hR] at HF ⊢
  clear hR
  obtain ⟨C, hC⟩ : ∃ C, R.m.calls.map c5 = C := ⟨_, rfl⟩
  try rw [hC]
  have HC := Hd.mk hC
  clear hC
  obtain ⟨ans, hans⟩ : ∃ ans, R.m.recs.map (·.sa) = ans := ⟨_, rfl⟩
  have HSA := Hd.mk hans
  rw [hans]
  clear hans
  have hnot : ∀ (x : Bool) (w : World), (Op.unary .not (.bool x)).run Try.prog w = .ok (.bool (!x)) w := fun _ _ => rfl
  go_enter Try.func54, Try.ntmps54
  go_wp2_with fail
  refine (spec_l2Ask _ _ A c bs fn arg fu _ HV2.out).mono ?_
  rintro e w1 ⟨rfl, HP⟩
  have HS1 := HP.sep
  have HE1 := HP.ext
  clear HP
  go_wp2_with fail
  refine (spec_runX _ _ A c bs HNN.out fn arg fu L HB.out HV.out).mono ?_
  rw [HR.out]
  rintro e w2 ⟨A2, c2, rfl, HP⟩
  have HS2 := HP.sep
  have HE2 := HP.ext
  clear HP
  try simp only []
  rename_i hK
  refine hK _ _ ?_
  clear hK
  refine ev_val rfl _ rfl ?_
  obtain ⟨now, hr3⟩ := HF.out.r3
  have HR3 := Hd.mk hr3
  clear hr3
  have HSV := Hd.mk (sav_eq HF.out)
  go_wp2_with fail
  refine (@spec_l5Saved _ w2 HS2 A2 c2 R.m.trace inferInstance HF.out.ts _ _ now HR3.out HF.out.len (by rw [List.length_map]; have h1 := HF.out.bl.c; have h2 := HF.out.ts; omega) (fun i e o h1 h2 hk => by rw [List.length_map]; exact own6 HF.out h1 h2 hk)).mono ?_
  rw [HSV.out, HSA.out]
  rintro e w3 ⟨A3, c3, rfl, HP⟩
  have HS3 := HP.sep
  have HE3 := HP.ext
  clear HP
  go_wp2
  go_ret2
  exact IntsOk.of (v := .slice A3 ans.length c3) (Post.mk' (Ent.sep (S := _) inferInstance inferInstance) inferInstance)
def ok_SavedCalls (L : List (List St)) (fn arg fuel : Int) : Bool := askB L fn arg fuel
def ans_SavedCalls (L : List (List St)) (fn arg fuel : Int) : List Int := if askB L fn arg fuel then (ranM L fn arg fuel.toNat).m.recs.map (·.sa) else []
theorem ans_SavedCalls_yes {L : List (List St)} {fn arg : Int} {fu : Nat} (h : askB L fn arg fu = true) : ans_SavedCalls L fn arg fu = (ranM L fn arg fu).m.recs.map (·.sa) := by unfold ans_SavedCalls; rw [if_pos h]; rfl
theorem ans_SavedCalls_no {L : List (List St)} {fn arg fuel : Int} (h : askB L fn arg fuel = false) : ans_SavedCalls L fn arg fuel = [] := by unfold ans_SavedCalls; rw [h]; rfl
theorem impl_SavedCallsA (S : HP) (w : World) [H : SepI w S] (A : Option Addr) (c : Nat) (bs : List Bd) [r : Rd S A (cBds bs)] [B : Bodies S bs] (fn arg fuel : Int) :
    Calls Try.prog 55 #[.agg #[.slice A bs.length c], .int .i64 fn, .int .i64 arg, .int .i64 fuel] w (IntsOk S (ans_SavedCalls (bs.map (·.l)) fn arg fuel) (ok_SavedCalls (bs.map (·.l)) fn arg fuel) w) := by
  obtain ⟨v, hv⟩ : ∃ v, askB (bs.map (·.l)) fn arg fuel = v := ⟨_, rfl⟩
  have e : ok_SavedCalls (bs.map (·.l)) fn arg fuel = v := hv
  rw [e]
  cases v
  · rw [ans_SavedCalls_no hv]; exact impl_SavedCallsN S w A c bs fn arg fuel hv
  · obtain ⟨fu, rfl⟩ : ∃ fu : Nat, fuel = fu := ⟨fuel.toNat, by have := (askB_of hv).2.2.2.1; omega⟩
    rw [ans_SavedCalls_yes hv]; exact impl_SavedCallsV S w A c bs fn arg fu _ rfl hv
theorem spec_SavedCallsA (S : HP) (w : World) [H : SepI w S] (A : Option Addr) (c : Nat) (bs : List Bd) [r : Rd S A (cBds bs)] [B : Bodies S bs] (hnn : NoneNil bs) (fn arg fuel : Int) :
    Calls Try.prog 54 #[.agg #[.slice A bs.length c], .int .i64 fn, .int .i64 arg, .int .i64 fuel] w (IntsOk S (ans_SavedCalls (bs.map (·.l)) fn arg fuel) (ok_SavedCalls (bs.map (·.l)) fn arg fuel) w) := by
  obtain ⟨v, hv⟩ : ∃ v, askB (bs.map (·.l)) fn arg fuel = v := ⟨_, rfl⟩
  have e : ok_SavedCalls (bs.map (·.l)) fn arg fuel = v := hv
  rw [e]
  cases v
  · rw [ans_SavedCalls_no hv]; exact spec_SavedCallsN S w A c bs fn arg fuel hv
  · obtain ⟨fu, rfl⟩ : ∃ fu : Nat, fuel = fu := ⟨fuel.toNat, by have := (askB_of hv).2.2.2.1; omega⟩
    rw [ans_SavedCalls_yes hv]; exact spec_SavedCallsV S w A c bs hnn fn arg fu _ rfl hv
theorem small_SavedCalls (L : List (List St)) (fn arg fuel : Int) : (ans_SavedCalls L fn arg fuel).length ≤ 1048576 := by
  obtain ⟨v, hv⟩ : ∃ v, askB L fn arg fuel = v := ⟨_, rfl⟩
  cases v
  · rw [ans_SavedCalls_no hv]; simp
  · obtain ⟨fu, rfl⟩ : ∃ fu : Nat, fuel = fu := ⟨fuel.toNat, by have := (askB_of hv).2.2.2.1; omega⟩
    rw [ans_SavedCalls_yes hv]
    have FF := factsB hv
    have hts := FF.ts
    have := FF.bl.r; rw [List.length_map]; omega
end Go.Proofs.Ythnaoedlnificaa
