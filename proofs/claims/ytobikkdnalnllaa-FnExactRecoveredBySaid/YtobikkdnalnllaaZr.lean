/- RecoveredBy, by the program and by the reference. Conditions: lengths within bounds. -/
import Derived.Test.YtobikkdnalnllaaZq
import Derived.Test.YtobikkdnalnllaaYh
namespace Go.Proofs.Ytobikkdnalnllaa
open Go.RowKit SL
attribute [local go_sem] cell_blk frozen_blk lt_blk cell_at frozen_row lt_row
set_option linter.unusedVariables false
set_option linter.unusedSimpArgs false

theorem cRcs_atZ {l : List Rc} {k : Nat} {x : Rc} (h : l[k]? = some x) : (cRcs l)[k * 3]? = some (.int .i64 x.ca) ∧ (cRcs l)[k * 3 + 1]? = some (.int .i64 x.sa) ∧ (cRcs l)[k * 3 + 2]? = some (.int .i64 x.pa) :=
  ⟨flat_get (f := cRc) (k := 3) (fun _ => rfl) h 0 (by omega), flat_get (f := cRc) (k := 3) (fun _ => rfl) h 1 (by omega), flat_get (f := cRc) (k := 3) (fun _ => rfl) h 2 (by omega)⟩
theorem cCis_fnZ {l : List Ci} {k : Nat} {x : Ci} (h : l[k]? = some x) : (cCis l)[k * 6]? = some (.int .i64 x.fn) := flat_get (f := cCi) (k := 6) (fun _ => rfl) h 0 (by omega)
theorem recA_len (m : Ma) : (recA m).length = m.recs.length := by unfold recA; exact List.length_map ..
set_option maxRecDepth 100000 in
set_option maxHeartbeats 8000000 in
theorem impl_RecoveredByN (S : HP) (w : World) [H : SepI w S] (A : Option Addr) (c : Nat) (bs : List Bd) [r : Rd S A (cBds bs)] [B : Bodies S bs] (fn arg fuel : Int) (hv : askB (bs.map (·.l)) fn arg fuel = false) :
    Calls Try.prog 45 #[.agg #[.slice A bs.length c], .int .i64 fn, .int .i64 arg, .int .i64 fuel] w (A2Ok S [] false w) := by
  have hbn := B.n
  have HV := Hd.mk hv
  clear hv
  have hnot : ∀ (x : Bool) (w : World), (Op.unary .not (.bool x)).run Try.prog w = .ok (.bool (!x)) w := fun _ _ => rfl
  go_enter Try.func45, Try.ntmps45
  go_wp2_with fail
  refine (impl_ranN _ _ A c bs fn arg fuel HV.out).mono ?_
  rintro e w1 ⟨rfl, HP⟩
  have HS1 := HP.sep
  have HE1 := HP.ext
  clear HP
  go_wp2
  go_ret2
  exact A2Ok.nil (v := .slice none 0 0) (Post.mk' (Ent.sep (S := _) inferInstance (Row.nil0 HS1 112 2)) inferInstance)
set_option maxRecDepth 100000 in
set_option maxHeartbeats 8000000 in
theorem impl_RecoveredByV (S : HP) (w : World) [H : SepI w S] (A : Option Addr) (c : Nat) (bs : List Bd) [r : Rd S A (cBds bs)] [B : Bodies S bs] (fn arg : Int) (fu : Nat) (L : List (List St)) (hbs : bs.map (·.l) = L) (hv : askB L fn arg fu = true) :
    Calls Try.prog 45 #[.agg #[.slice A bs.length c], .int .i64 fn, .int .i64 arg, .int .i64 fu] w (A2Ok S (recA (ranM L fn arg fu).m) true w) := by
  have hbn := B.n
  have HV := Hd.mk hv
  have HB := Hd.mk hbs
  have HF := Hd.mk (factsB hv)
  clear hv hbs
  obtain ⟨R, hR⟩ : ∃ R, ranM L fn arg fu = R := ⟨_, rfl⟩
  have HR := Hd.mk hR
  rw [hR] at HF ⊢
  clear hR
  obtain ⟨m, hm⟩ : ∃ m, m = R.m.recs.length := ⟨_, rfl⟩
  have HM := Hd.mk hm
  obtain ⟨O, hO⟩ : ∃ O : Nat → List (Int × Int), O = fun i => (R.m.recs.take i).map (fun r => (r.pa, fnOf R.m r.ca)) := ⟨_, rfl⟩
  have HO0 : Hd (O 0 = []) := ⟨by rw [hO]; rfl⟩
  have HOM : Hd (O m = recA R.m) := ⟨by rw [hO, hm]; unfold recA; simp only [List.take_length]⟩
  have HOY : Hd (∀ (i : Nat) (x : Rc), R.m.recs[i]? = some x → O (i + 1) = O i ++ [(x.pa, fnOf R.m x.ca)]) := ⟨fun i x h => by rw [hO]; simp only; rw [take_succ_eq h, List.map_append]; rfl⟩
  have HOL : Hd (∀ i : Nat, (O i).length ≤ i) := ⟨fun i => by rw [hO]; simp only [List.length_map, List.length_take]; omega⟩
  have hml : m ≤ 1000 := by have h1 := HF.out.bl.r; have h2 := HF.out.ts; omega
  rw [← HOM.out]
  clear hO
  have hnot : ∀ (x : Bool) (w : World), (Op.unary .not (.bool x)).run Try.prog w = .ok (.bool (!x)) w := fun _ _ => rfl
  go_enter Try.func45, Try.ntmps45
  go_wp2_with fail
  refine (impl_ranX _ _ A c bs fn arg fu L HB.out HV.out).mono ?_
  rw [HR.out]
  rintro e w1 ⟨gm, ⟨A1, c1, A2, c2, A3, c3, A4, c4, A5, c5, bm, ps⟩, S0, rfl, hps, M, HP⟩
  have i1 := M.blk
  have rT := M.tr
  have rO := M.ow
  have rC := M.ca
  have rP := M.pa
  have rR := M.rc
  dsimp only at hps i1 rT rO rC rP rR
  have HPS := Hd.mk hps
  have HM1 := Hd.mk M
  clear hps M
  have HS1 := HP.sep
  have HE1 := HP.ext
  clear HP
  rw [← hm] at i1
  clear hm
  obtain ⟨bf, hbf⟩ : ∃ bf, bf = w1.heap.size := ⟨_, rfl⟩
  have hlit : SepI (w1.alloc (.cells #[] 112 (0, 0))) (Row 112 2 (.slice (some ⟨w1.heap.size, 0, none⟩) 0 0) 0 [] * S0) := Row.lit0 (SepI.i_alloc w1 (.cells #[] 112 (0, 0)) S0 _)
  have HBF := Hd.mk hbf
  clear hbf
  go_wp2
  rw [← HBF.out] at hlit ⊢
  go_loopw [12, 31] (fun v3 v4 wr => ∃ (i : Nat) (vv : Value), i ≤ m ∧ v4 = .int .i64 i ∧ v3 = vv ∧ ExtI w wr ∧ SepI wr (Row 112 2 vv (O i).length (cPr (O i)) * S0)) (fun _ v _ => m - (intOf v).toNat)
  case atStart => exact ⟨0, .slice (some ⟨bf, 0, none⟩) 0 0, Nat.zero_le _, rfl, rfl, inferInstance, SepI.cast hlit (by rw [HO0.out]; rfl)⟩
  case round =>
    obtain ⟨i, vv, hi, rfl, rfl, HX, HS3⟩ := hrel
    clear hlit
    by_cases hlt : i < m
    · obtain ⟨q, hs1⟩ := get_ex (xs := R.m.recs) (k := i) (by rw [← HM.out]; exact hlt)
      obtain ⟨bp, op, rfl⟩ := rR.addr HS1 (j := i) (by rw [cRcs_len, ← HM.out]; omega)
      obtain ⟨hq0, ⟨cl, hcl, _⟩, _⟩ := HF.out.rs.ok q (List.mem_of_getElem? hs1)
      obtain ⟨qa, qs, qp⟩ := q
      simp only at hq0 hcl
      obtain ⟨a, rfl⟩ : ∃ a : Nat, qa = (a : Int) := ⟨qa.toNat, by omega⟩
      rw [Int.toNat_natCast] at hcl
      have hac : a < R.m.calls.length := (List.getElem?_eq_some_iff.1 hcl).1
      obtain ⟨bC, oC, rfl⟩ := rC.addr HS1 (j := a) (by rw [cCis_len]; omega)
      have e1 := rR.cell (cRcs_atZ hs1).1
      have e2 := rR.cell (cRcs_atZ hs1).2.1
      have e3 := rR.cell (cRcs_atZ hs1).2.2
      have e4 := rC.cell (cCis_fnZ hcl)
      simp only at e1 e2 e3
      obtain ⟨A0, c0, rfl, hc0, hc1⟩ := Row.form HS3
      have hol : (O i).length ≤ 1000 := by have := HOL.out i; omega
      have HOO : Hd (cPr (O i) ++ #[.int .i64 qp, .int .i64 cl.fn].toList = cPr (O (i + 1))) := ⟨by rw [HOY.out i _ hs1]; simp only [fnOf, Int.toNat_natCast]; rw [List.getD_eq_getElem?_getD, hcl, cPr_snoc]; rfl⟩
      have HLL : Hd ((O i).length + 1 = (O (i + 1)).length) := ⟨by rw [HOY.out i _ hs1]; simp⟩
      clear hs1 hcl hq0
      go_wp2
      refine wp_region_W 15 17 (by kernel_rfl) (by kernel_rfl) (fun w' => w'.cell? ⟨wr.heap.size, 2, none⟩ = some (.int .i64 qp) ∧ w'.cell? ⟨gm, 8, none⟩ = some (.slice (some ⟨bC, oC, none⟩) R.m.calls.length c3) ∧ w'.cell? ⟨wr.heap.size, 0, none⟩ = some (.int .i64 (a : Int)) ∧ w'.cell? ⟨bC, oC + a * 6, none⟩ = some (.int .i64 cl.fn)) ⟨cb, cb, cb, cell_at _ _ _ _ _⟩ (fun hHeld => ?_)
      refine tkp 0 hHeld ?_
      refine tkp 1 hHeld ?_
      refine tkl 2 hHeld ?_
      refine tkp 3 hHeld ?_
      refine tkp 4 hHeld ?_
      refine tkp 5 hHeld ?_
      refine tkl 6 hHeld ?_
      refine tkp 7 hHeld ?_
      refine tkl 8 hHeld ?_
      refine tkp 9 hHeld ?_
      refine tkp 10 hHeld ?_
      refine tkp 11 hHeld ?_
      refine tkl 12 hHeld ?_
      refine tkp 13 hHeld ?_
      refine wpAnyW_one false (i := 14) (by kernel_rfl) rfl (by kernel_rfl) (by rfl) (fun KK hKK => ?_)
      refine st_list rfl ?_
      go_wp2
      refine ⟨rfl, ?_⟩
      refine hKK.out _ _ (.inr ⟨cb, cb, cb, cell_at _ _ _ _ _⟩) (fun hHeld => ?_)
      clear hKK KK
      try simp only [Act.put, List.setIfInBounds_toArray, List.set_cons_zero, List.set_cons_succ]
      refine wpAnyW_done (by kernel_rfl) ?_
      refine ev_append (v := .slice A0 (O i).length c0) rfl _ _ 51 rfl ?_ 16 _ Try.underlying51 info_pr rfl (by decide) (by decide) (wr.heap.size + 1) 1 1 ?_ rfl (by simp [Value.oneCell']) (by omega) ?_
      rfl
      rfl
      intro v1 w4 HS4 HE4
      replace HS4 := Row.as HS4 HLL.out HOO.out
      go_wp2
      go_roundw
      case rel => exact ⟨i + 1, v1, by omega, by go_num, rfl, inferInstance, Ent.sep (S := _) (T := Row 112 2 v1 (O (i + 1)).length (cPr (O (i + 1))) * S0) inferInstance HS4⟩
      case measure => (simp [intOf]; try omega)
    · have : i = m := by omega
      subst this
      obtain ⟨A0, c0, rfl, hc0, hc1⟩ := Row.form HS3
      go_wp2
      go_ret2
      exact A2Ok.of (v := .slice A0 (O i).length c0) (Post.mk' (Ent.sep (S := _) inferInstance (HM1.out.out (Ent.sep (S := _) (T := Row 112 2 (.slice A0 (O i).length c0) (O i).length (cPr (O i)) * S0) inferInstance inferInstance))) inferInstance)
set_option maxRecDepth 100000 in
set_option maxHeartbeats 8000000 in
theorem spec_RecoveredByN (S : HP) (w : World) [H : SepI w S] (A : Option Addr) (c : Nat) (bs : List Bd) [r : Rd S A (cBds bs)] [B : Bodies S bs] (fn arg fuel : Int) (hv : askB (bs.map (·.l)) fn arg fuel = false) :
    Calls Try.prog 44 #[.agg #[.slice A bs.length c], .int .i64 fn, .int .i64 arg, .int .i64 fuel] w (A2Ok S [] false w) := by
  have hbn := B.n
  have HV := Hd.mk hv
  clear hv
  have hnot : ∀ (x : Bool) (w : World), (Op.unary .not (.bool x)).run Try.prog w = .ok (.bool (!x)) w := fun _ _ => rfl
  go_enter Try.func44, Try.ntmps44
  go_wp2_with fail
  refine (spec_l2Ask _ _ A c bs fn arg fuel _ HV.out).mono ?_
  rintro e w1 ⟨rfl, HP⟩
  have HS1 := HP.sep
  have HE1 := HP.ext
  clear HP
  go_wp2
  go_ret2
  exact A2Ok.nil (v := .slice (some ⟨w1.heap.size, 0, none⟩) 0 0) (Post.mk' (Ent.sep (S := _) inferInstance (Row.lit0 (size := 2) (SepI.i_alloc w1 (.cells #[] 112 (0, 0)) _ _))) inferInstance)
set_option maxRecDepth 100000 in
set_option maxHeartbeats 8000000 in
theorem spec_RecoveredByV (S : HP) (w : World) [H : SepI w S] (A : Option Addr) (c : Nat) (bs : List Bd) [r : Rd S A (cBds bs)] [B : Bodies S bs] (hnn : NoneNil bs) (fn arg : Int) (fu : Nat) (L : List (List St)) (hbs : bs.map (·.l) = L) (hv : askB L fn arg fu = true) :
    Calls Try.prog 44 #[.agg #[.slice A bs.length c], .int .i64 fn, .int .i64 arg, .int .i64 fu] w (A2Ok S (recA (ranM L fn arg fu).m) true w) := by
  have HNN := Hd.mk hnn
  have HV2 : Hd (askB (bs.map (·.l)) fn arg fu = true) := ⟨by rw [hbs]; exact hv⟩
  clear hnn
  have hbn := B.n
  have HV := Hd.mk hv
  have HB := Hd.mk hbs
  have HF := Hd.mk (factsB hv)
  clear hv hbs
  obtain ⟨R, hR⟩ : ∃ R, ranM L fn arg fu = R := ⟨_, rfl⟩
  have HR := Hd.mk hR
  rw [hR] at HF ⊢
  clear hR
  obtain ⟨⟨ca, pn, dp, un, rv, rp, bf⟩, hq, f1, f2, f3, f4, f5, f6⟩ := facts4 HF.out
  simp only at f1 f2 f3 f4 f5 f6
  have HQ := Hd.mk hq
  rw [← f4]
  clear hq f1 f2 f3 f4 f5 f6
  have hnot : ∀ (x : Bool) (w : World), (Op.unary .not (.bool x)).run Try.prog w = .ok (.bool (!x)) w := fun _ _ => rfl
  go_enter Try.func44, Try.ntmps44
  go_wp2_with fail
  refine (spec_l2Ask _ _ A c bs fn arg fu _ HV2.out).mono ?_
  rintro e w1 ⟨rfl, HP⟩
  have HS1 := HP.sep
  have HE1 := HP.ext
  clear HP
  go_wp2_with fail
  refine (spec_l4OfX _ _ A c bs HNN.out fn arg fu L HB.out HV.out _ (by rw [HR.out]; exact HQ.out)).mono ?_
  rintro e w2 ⟨⟨A1, c1, A2, c2, A3, c3, A4, c4, A5, c5, A6, c6, A7, c7, us⟩, hu, rfl, HP⟩
  have hval : r4V ⟨A1, c1, A2, c2, A3, c3, A4, c4, A5, c5, A6, c6, A7, c7, us⟩ ⟨ca, pn, dp, un, rv, rp, bf⟩ = .agg #[Value.slice A1 ca.length c1, .slice A2 pn.length c2, .slice A3 dp.length c3, .slice A4 us.length c4, .slice A5 rv.length c5, .slice A6 rp.length c6, .slice A7 bf.length c7] := rfl
  rw [hval]
  clear hval
  simp only at hu
  have HU := Hd.mk hu
  clear hu
  have HS2 := HP.sep
  have HE2 := HP.ext
  clear HP
  unfold R4H at HS2
  simp only at HS2
  try simp only []
  rename_i hK
  refine hK _ _ ?_
  clear hK
  refine ev_val rfl _ rfl ?_
  go_wp2
  go_ret2
  exact A2Ok.of (v := .slice A5 rv.length c5) (Post.mk' (Ent.sep (S := _) inferInstance inferInstance) inferInstance)
def ok_RecoveredBy (L : List (List St)) (fn arg fuel : Int) : Bool := askB L fn arg fuel
def ans_RecoveredBy (L : List (List St)) (fn arg fuel : Int) : List (Int × Int) := if askB L fn arg fuel then recA (ranM L fn arg fuel.toNat).m else []
theorem ans_RecoveredBy_yes {L : List (List St)} {fn arg : Int} {fu : Nat} (h : askB L fn arg fu = true) : ans_RecoveredBy L fn arg fu = recA (ranM L fn arg fu).m := by unfold ans_RecoveredBy; rw [if_pos h]; rfl
theorem ans_RecoveredBy_no {L : List (List St)} {fn arg fuel : Int} (h : askB L fn arg fuel = false) : ans_RecoveredBy L fn arg fuel = [] := by unfold ans_RecoveredBy; rw [h]; rfl
theorem impl_RecoveredByA (S : HP) (w : World) [H : SepI w S] (A : Option Addr) (c : Nat) (bs : List Bd) [r : Rd S A (cBds bs)] [B : Bodies S bs] (fn arg fuel : Int) :
    Calls Try.prog 45 #[.agg #[.slice A bs.length c], .int .i64 fn, .int .i64 arg, .int .i64 fuel] w (A2Ok S (ans_RecoveredBy (bs.map (·.l)) fn arg fuel) (ok_RecoveredBy (bs.map (·.l)) fn arg fuel) w) := by
  obtain ⟨v, hv⟩ : ∃ v, askB (bs.map (·.l)) fn arg fuel = v := ⟨_, rfl⟩
  have e : ok_RecoveredBy (bs.map (·.l)) fn arg fuel = v := hv
  rw [e]
  cases v
  · rw [ans_RecoveredBy_no hv]; exact impl_RecoveredByN S w A c bs fn arg fuel hv
  · obtain ⟨fu, rfl⟩ : ∃ fu : Nat, fuel = fu := ⟨fuel.toNat, by have := (askB_of hv).2.2.2.1; omega⟩
    rw [ans_RecoveredBy_yes hv]; exact impl_RecoveredByV S w A c bs fn arg fu _ rfl hv
theorem spec_RecoveredByA (S : HP) (w : World) [H : SepI w S] (A : Option Addr) (c : Nat) (bs : List Bd) [r : Rd S A (cBds bs)] [B : Bodies S bs] (hnn : NoneNil bs) (fn arg fuel : Int) :
    Calls Try.prog 44 #[.agg #[.slice A bs.length c], .int .i64 fn, .int .i64 arg, .int .i64 fuel] w (A2Ok S (ans_RecoveredBy (bs.map (·.l)) fn arg fuel) (ok_RecoveredBy (bs.map (·.l)) fn arg fuel) w) := by
  obtain ⟨v, hv⟩ : ∃ v, askB (bs.map (·.l)) fn arg fuel = v := ⟨_, rfl⟩
  have e : ok_RecoveredBy (bs.map (·.l)) fn arg fuel = v := hv
  rw [e]
  cases v
  · rw [ans_RecoveredBy_no hv]; exact spec_RecoveredByN S w A c bs fn arg fuel hv
  · obtain ⟨fu, rfl⟩ : ∃ fu : Nat, fuel = fu := ⟨fuel.toNat, by have := (askB_of hv).2.2.2.1; omega⟩
    rw [ans_RecoveredBy_yes hv]; exact spec_RecoveredByV S w A c bs hnn fn arg fu _ rfl hv
theorem small_RecoveredBy (L : List (List St)) (fn arg fuel : Int) : (ans_RecoveredBy L fn arg fuel).length ≤ 1048576 := by
  obtain ⟨v, hv⟩ : ∃ v, askB L fn arg fuel = v := ⟨_, rfl⟩
  cases v
  · rw [ans_RecoveredBy_no hv]; simp
  · obtain ⟨fu, rfl⟩ : ∃ fu : Nat, fuel = fu := ⟨fuel.toNat, by have := (askB_of hv).2.2.2.1; omega⟩
    rw [ans_RecoveredBy_yes hv]
    have FF := factsB hv
    have hts := FF.ts
    rw [recA_len]; have := FF.bl.r; omega
end Go.Proofs.Ytobikkdnalnllaa
