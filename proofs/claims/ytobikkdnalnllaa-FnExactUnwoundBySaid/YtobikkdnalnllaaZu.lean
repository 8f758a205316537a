/- UnwoundBy, by the program and by the reference. Conditions: lengths within bounds. -/
import Derived.Test.YtobikkdnalnllaaZq
namespace Go.Proofs.Ytobikkdnalnllaa
open Go.RowKit SL
attribute [local go_sem] cell_blk frozen_blk lt_blk cell_at frozen_row lt_row
set_option linter.unusedVariables false
set_option linter.unusedSimpArgs false

/-- A number of a panic of a run. -/
def pnoB (R : Run) (k : Int) : Bool := inB k 0 ((R.m.panics.length : Int) - 1)
def unA (R : Run) (k : Int) : List Int := if pnoB R k then ((R.m.panics.map (fun p : Pn => p.un)).getD k.toNat []) else []
set_option maxRecDepth 100000 in
set_option maxHeartbeats 8000000 in
theorem impl_UnwoundByN (S : HP) (w : World) [H : SepI w S] (A : Option Addr) (c : Nat) (bs : List Bd) [r : Rd S A (cBds bs)] [B : Bodies S bs] (fn arg fuel k : Int) (hv : askB (bs.map (·.l)) fn arg fuel = false) :
    Calls Try.prog 34 #[.agg #[.slice A bs.length c], .int .i64 fn, .int .i64 arg, .int .i64 fuel, .int .i64 k] w (IntsOk S [] false w) := by
  have hbn := B.n
  have HV := Hd.mk hv
  clear hv
  have hnot : ∀ (x : Bool) (w : World), (Op.unary .not (.bool x)).run Try.prog w = .ok (.bool (!x)) w := fun _ _ => rfl
  go_enter Try.func34, Try.ntmps34
  go_wp2_with fail
  refine (impl_ranN _ _ A c bs fn arg fuel HV.out).mono ?_
  rintro e w1 ⟨rfl, HP⟩
  have HS1 := HP.sep
  have HE1 := HP.ext
  clear HP
  go_wp2
  go_ret2
  exact IntsOk.nil (v := .slice none 0 0) (Post.mk' (Ent.sep (S := _) inferInstance (Row.nil0 HS1 3 1)) inferInstance)
set_option maxRecDepth 100000 in
set_option maxHeartbeats 8000000 in
theorem spec_UnwoundByN (S : HP) (w : World) [H : SepI w S] (A : Option Addr) (c : Nat) (bs : List Bd) [r : Rd S A (cBds bs)] [B : Bodies S bs] (fn arg fuel k : Int) (hv : askB (bs.map (·.l)) fn arg fuel = false) :
    Calls Try.prog 33 #[.agg #[.slice A bs.length c], .int .i64 fn, .int .i64 arg, .int .i64 fuel, .int .i64 k] w (IntsOk S [] false w) := by
  have hbn := B.n
  have HV := Hd.mk hv
  clear hv
  have hnot : ∀ (x : Bool) (w : World), (Op.unary .not (.bool x)).run Try.prog w = .ok (.bool (!x)) w := fun _ _ => rfl
  go_enter Try.func33, Try.ntmps33
  go_wp2_with fail
  refine (spec_l2Ask _ _ A c bs fn arg fuel _ HV.out).mono ?_
  rintro e w1 ⟨rfl, HP⟩
  have HS1 := HP.sep
  have HE1 := HP.ext
  clear HP
  go_wp2
  go_ret2
  exact IntsOk.nil (v := .slice (some ⟨w1.heap.size, 0, none⟩) 0 0) (Post.mk' (Ent.sep (S := _) inferInstance (Row.lit0 (size := 1) (SepI.i_alloc w1 (.cells #[] 3 (0, 0)) _ _))) inferInstance)
set_option maxRecDepth 100000 in
set_option maxHeartbeats 8000000 in
theorem spec_UnwoundByV (S : HP) (w : World) [H : SepI w S] (A : Option Addr) (c : Nat) (bs : List Bd) [r : Rd S A (cBds bs)] [B : Bodies S bs] (hnn : NoneNil bs) (fn arg : Int) (fu : Nat) (L : List (List St)) (hbs : bs.map (·.l) = L) (hv : askB L fn arg fu = true) (k : Int) :
    Calls Try.prog 33 #[.agg #[.slice A bs.length c], .int .i64 fn, .int .i64 arg, .int .i64 fu, .int .i64 k] w (IntsOk S (unA (ranM L fn arg fu) k) (pnoB (ranM L fn arg fu) k) w) := by
  have HNN := Hd.mk hnn
  have HV2 : Hd (askB (bs.map (·.l)) fn arg fu = true) := ⟨by rw [hbs]; exact hv⟩
  clear hnn
  have hbn := B.n
  have HV := Hd.mk hv
  have HB := Hd.mk hbs
  have HF := Hd.mk (factsB hv)
  clear hv hbs
  obtain ⟨R, hR⟩ : ∃ R, ranM L fn arg fu = R := ⟨_, rfl⟩
  have HR := Hd.mk hR
  rw [hR] at HF ⊢
  clear hR
  obtain ⟨⟨ca, pn, dp, un, rv, rp, bf⟩, hq, f1, f2, f3, f4, f5, f6⟩ := facts4 HF.out
  simp only at f1 f2 f3 f4 f5 f6
  have HQ := Hd.mk hq
  obtain ⟨v, hv⟩ : ∃ v, pnoB R k = v := ⟨_, rfl⟩
  have hpl : pn.length = R.m.panics.length := by rw [f1]; unfold fatA; exact List.length_map ..
  have hp0 : pn.length ≤ 1000 := by have h1 := HF.out.bl.p; have h2 := HF.out.ts; omega
  have HIN : Hd (inB k 0 ((pn.length : Int) - 1) = v) := ⟨by rw [hpl, ← hv]; rfl⟩
  have HUN : Hd (un = R.m.panics.map (fun p : Pn => p.un)) := ⟨f3⟩
  have HUL : Hd (un.length = pn.length) := ⟨by rw [f3, hpl]; exact List.length_map ..⟩
  obtain ⟨U, hU⟩ : ∃ U, unA R k = U := ⟨_, rfl⟩
  have HU1 : Hd (v = false → U = []) := ⟨fun h => by rw [← hU]; unfold unA; rw [hv, h]; rfl⟩
  have HU2 : Hd (v = true → U = un.getD k.toNat []) := ⟨fun h => by rw [← hU]; unfold unA; rw [hv, h, if_pos rfl, f3]⟩
  rw [hv, hU]
  have hwl : IntKind.i64.wrap ((pn.length : Int) - 1) = (pn.length : Int) - 1 := IntWalk.i64_in _ (by omega)
  clear hq f1 f2 f3 f4 f5 f6 hv hpl hU
  have hnot : ∀ (x : Bool) (w : World), (Op.unary .not (.bool x)).run Try.prog w = .ok (.bool (!x)) w := fun _ _ => rfl
  go_enter Try.func33, Try.ntmps33
  go_wp2_with fail
  refine (spec_l2Ask _ _ A c bs fn arg fu _ HV2.out).mono ?_
  rintro e w1 ⟨rfl, HP⟩
  have HS1 := HP.sep
  have HE1 := HP.ext
  clear HP
  go_wp2_with fail
  refine (spec_l4OfX _ _ A c bs HNN.out fn arg fu L HB.out HV.out _ (by rw [HR.out]; exact HQ.out)).mono ?_
  rintro e w2 ⟨⟨A1, c1, A2, c2, A3, c3, A4, c4, A5, c5, A6, c6, A7, c7, us⟩, hu, rfl, HP⟩
  have hval : r4V ⟨A1, c1, A2, c2, A3, c3, A4, c4, A5, c5, A6, c6, A7, c7, us⟩ ⟨ca, pn, dp, un, rv, rp, bf⟩ = .agg #[Value.slice A1 ca.length c1, .slice A2 pn.length c2, .slice A3 dp.length c3, .slice A4 us.length c4, .slice A5 rv.length c5, .slice A6 rp.length c6, .slice A7 bf.length c7] := rfl
  rw [hval]
  clear hval
  simp only at hu
  have HU := Hd.mk hu
  clear hu
  have HS2 := HP.sep
  have HE2 := HP.ext
  clear HP
  unfold R4H at HS2
  simp only at HS2
  go_wp2_with fail
  refine (spec_in _ _ _ v _ HIN.out).mono ?_
  rintro e w3 ⟨rfl, rfl⟩
  cases v
  · have HUE : Hd (U = []) := ⟨HU1.out rfl⟩
    clear HU1 HU2
    go_wp2
    go_ret2
    rw [HUE.out]
    exact IntsOk.nil (v := .slice (some ⟨w2.heap.size + 1, 0, none⟩) 0 0) (Post.mk' (Ent.sep (S := _) inferInstance (Row.lit0 (size := 1) (SepI.i_alloc _ (.cells #[] 3 (0, 0)) _ _))) inferInstance)
  · obtain ⟨hk1, hk2⟩ := inB_true HIN.out
    obtain ⟨j, rfl⟩ : ∃ j : Nat, k = (j : Int) := ⟨k.toNat, by omega⟩
    have hul : us.length = un.length := by rw [← HU.out, List.length_map]
    have hju : j < us.length := by rw [hul, HUL.out]; omega
    obtain ⟨y, hy⟩ := get_ex (xs := us) (k := j) hju
    have hgetu : (us.map (fun z : Uv => z.v))[j]? = some y.v := by rw [List.getElem?_map, hy]; rfl
    have HUY : Hd (U = y.l) := ⟨by rw [HU2.out rfl, Int.toNat_natCast, List.getD_eq_getElem?_getD, ← HU.out, List.getElem?_map, hy]; rfl⟩
    obtain ⟨Rr, er⟩ := stars_pick (List.mem_map_of_mem (f := uH) (List.mem_of_getElem? hy))
    rw [er, star_assoc] at HS2
    unfold uH at HS2
    clear HU1 HU2 hy er HU
    obtain ⟨yl, yv⟩ := y
    simp only at HS2 hgetu HUY
    have h4 := SepI.pick (A := Row 26 1 (.slice A4 us.length c4) us.length (us.map (fun z : Uv => z.v))) HS2 inferInstance
    obtain ⟨g4, rfl⟩ := Row.addr h4 (by omega)
    have h5 := SepI.pick (A := Row 3 1 yv yl.length (ints yl)) HS2 inferInstance
    obtain ⟨Ay, cy, rfl, _, _⟩ := Row.form h5
    have d4 : ∀ F : HP, CellAt (Row 26 1 (.slice (some ⟨g4, 0, none⟩) us.length c4) us.length (us.map (fun z : Uv => z.v)) * F) g4 j (.slice Ay yl.length cy) := fun F => Row.cellAt hgetu
    clear h4 h5 hgetu
    go_wp2
    go_ret2
    rw [HUY.out]
    exact IntsOk.of (v := .slice Ay yl.length cy) (Post.mk' (Ent.sep (S := _) inferInstance inferInstance) inferInstance)
theorem MachRC.unw {w : World} {gm : Nat} {A : Option Addr} {n c : Nat} {fuel : Int} {R : Run} {x : MVs} {S : HP} (H : SepI w (MachRC gm A n c fuel R.m R.kind R.val x S)) {y : Pv} (hy : y ∈ x.ps) :
    ∃ (Ay : Option Addr) (cy : Nat) (S0 : HP), y.u = .slice Ay y.p.un.length cy ∧ SepI w (Row 3 1 (.slice Ay y.p.un.length cy) y.p.un.length (ints y.p.un) * S0) ∧ HasBlk S0 gm (.cells (mcR A n c fuel R.m.made R.m.shared R.m.depth R.m.deepest (.slice x.A1 R.m.trace.length x.c1) (.slice x.A2 R.m.owners.length x.c2) (.slice x.A3 R.m.calls.length x.c3) (.slice x.A4 x.ps.length x.c4) (.slice x.A5 R.m.recs.length x.c5) x.bm R.kind R.val) 98 (0, 0)) ∧ Rd S0 x.A4 (cPvs x.ps) ∧ ∀ (X : HP) (w : World), SepI w (X * S0) → SepI w (X * S) := by
  unfold MachRC at H
  obtain ⟨Rr, e⟩ := stars_pick (List.mem_map_of_mem (f := unH) hy)
  rw [e, star_assoc] at H
  have h := SepI.pick (A := unH y) H inferInstance
  unfold unH at h
  obtain ⟨Ay, cy, hv, _⟩ := Row.form (e := 3) (size := 1) (cs := ints y.p.un) h
  rw [hv] at h
  exact ⟨Ay, cy, _, hv, h, inferInstance, inferInstance, fun X w H => Ent.sep (S := _) inferInstance H⟩
set_option maxRecDepth 100000 in
set_option maxHeartbeats 8000000 in
theorem impl_UnwoundByV (S : HP) (w : World) [H : SepI w S] (A : Option Addr) (c : Nat) (bs : List Bd) [r : Rd S A (cBds bs)] [B : Bodies S bs] (fn arg : Int) (fu : Nat) (L : List (List St)) (hbs : bs.map (·.l) = L) (hv : askB L fn arg fu = true) (k : Int) :
    Calls Try.prog 34 #[.agg #[.slice A bs.length c], .int .i64 fn, .int .i64 arg, .int .i64 fu, .int .i64 k] w (IntsOk S (unA (ranM L fn arg fu) k) (pnoB (ranM L fn arg fu) k) w) := by
  have hbn := B.n
  have HV := Hd.mk hv
  have HB := Hd.mk hbs
  have HF := Hd.mk (factsB hv)
  clear hv hbs
  obtain ⟨R, hR⟩ : ∃ R, ranM L fn arg fu = R := ⟨_, rfl⟩
  have HR := Hd.mk hR
  rw [hR] at HF ⊢
  clear hR
  obtain ⟨v, hv⟩ : ∃ v, pnoB R k = v := ⟨_, rfl⟩
  obtain ⟨U, hU⟩ : ∃ U, unA R k = U := ⟨_, rfl⟩
  have HU1 : Hd (v = false → U = []) := ⟨fun h => by rw [← hU]; unfold unA; rw [hv, h]; rfl⟩
  have HU2 : Hd (v = true → U = (R.m.panics.map (fun p : Pn => p.un)).getD k.toNat []) := ⟨fun h => by rw [← hU]; unfold unA; rw [hv, h, if_pos rfl]⟩
  have hp0 : R.m.panics.length ≤ 1000 := by have h1 := HF.out.bl.p; have h2 := HF.out.ts; omega
  obtain ⟨np, hnp⟩ : ∃ np, np = R.m.panics.length := ⟨_, rfl⟩
  have HIN : Hd (inB k 0 ((np : Int) - 1) = v) := ⟨by rw [hnp]; exact hv⟩
  have HNP := Hd.mk hnp
  rw [← hnp] at hp0
  rw [hv, hU]
  have hwl : IntKind.i64.wrap ((np : Int) - 1) = (np : Int) - 1 := IntWalk.i64_in _ (by omega)
  clear hv hU hnp
  have hnot : ∀ (x : Bool) (w : World), (Op.unary .not (.bool x)).run Try.prog w = .ok (.bool (!x)) w := fun _ _ => rfl
  go_enter Try.func34, Try.ntmps34
  go_wp2_with fail
  refine (impl_ranA _ _ A c bs fn arg fu L HB.out HV.out).mono ?_
  rw [HR.out]
  rintro e w1 ⟨gm, x, rfl, hps, HP⟩
  have hpl : x.ps.length = np := by rw [HNP.out, ← hps, List.length_map]
  have HPS := Hd.mk hps
  have HS1 := HP.sep
  have HE1 := HP.ext
  clear HP
  cases v
  · have M := MachRC.rd gm A bs.length c fu R x (pts w.heap.size (.cells #[.slice A bs.length c] 31 (0, 0)) * S)
    generalize MachRC gm A bs.length c fu R.m R.kind R.val x (pts w.heap.size (.cells #[.slice A bs.length c] 31 (0, 0)) * S) = S0 at HS1 M
    have i1 := M.blk
    rw [hpl] at i1
    have HM1 := Hd.mk M
    have HUE : Hd (U = []) := ⟨HU1.out rfl⟩
    clear HU1 HU2 M hps hpl
    go_wp2_with fail
    refine (impl_in _ _ _ _ _ HIN.out).mono ?_
    rintro e wz ⟨rfl, hz⟩
    have hz2 := hz.symm
    subst hz2
    clear hz
    go_wp2
    go_ret2
    rw [HUE.out]
    exact IntsOk.nil (v := .slice none 0 0) (Post.mk' (Ent.sep (S := _) (T := Row 3 1 (.slice none 0 0) 0 [] * S) inferInstance (HM1.out.out (Row.nil0 HS1 3 1))) inferInstance)
  · obtain ⟨hk1, hk2⟩ := inB_true HIN.out
    obtain ⟨j, rfl⟩ : ∃ j : Nat, k = (j : Int) := ⟨k.toNat, by omega⟩
    obtain ⟨y, hy⟩ := get_ex (xs := x.ps) (k := j) (by omega)
    have hyp : R.m.panics[j]? = some y.p := by rw [← hps, List.getElem?_map, hy]; rfl
    have HUY : Hd (U = y.p.un) := ⟨by rw [HU2.out rfl, Int.toNat_natCast, List.getD_eq_getElem?_getD, List.getElem?_map, hyp]; rfl⟩
    obtain ⟨Ay, cy, S0, hyu, HS2, i1, rP, hout⟩ := MachRC.unw HS1 (List.mem_of_getElem? hy)
    have HOUT := Hd.mk hout
    obtain ⟨A1, c1, A2, c2, A3, c3, A4, c4, A5, c5', bm, ps⟩ := x
    obtain ⟨yp, yu⟩ := y
    simp only at hyu hy hpl HS2 i1 rP HUY
    subst hyu
    rw [hpl] at i1
    obtain ⟨bP, oP, rfl⟩ := rP.addr HS2.right (j := j) (by rw [cPvs_len]; omega)
    have e8 := rP.cell (cPvs_at hy).2.2.2.2.2.2.2.2
    simp only at e8
    clear HU1 HU2 hps hpl hy hyp HS1 hout
    go_wp2_with fail
    refine (impl_in _ _ _ _ _ HIN.out).mono ?_
    rintro e wz ⟨rfl, hz⟩
    have hz2 := hz.symm
    subst hz2
    clear hz
    go_wp2
    go_ret2
    rw [HUY.out]
    exact IntsOk.of (v := .slice Ay yp.un.length cy) (Post.mk' (Ent.sep (S := _) inferInstance (HOUT.out _ _ HS2)) inferInstance)
def ok_UnwoundBy (L : List (List St)) (fn arg fuel k : Int) : Bool := askB L fn arg fuel && pnoB (ranM L fn arg fuel.toNat) k
def ans_UnwoundBy (L : List (List St)) (fn arg fuel k : Int) : List Int := if askB L fn arg fuel then unA (ranM L fn arg fuel.toNat) k else []
theorem un_no {L : List (List St)} {fn arg fuel k : Int} (h : askB L fn arg fuel = false) : ans_UnwoundBy L fn arg fuel k = [] ∧ ok_UnwoundBy L fn arg fuel k = false := by unfold ans_UnwoundBy ok_UnwoundBy; rw [h]; exact ⟨rfl, rfl⟩
theorem un_yes {L : List (List St)} {fn arg k : Int} {fu : Nat} (h : askB L fn arg fu = true) : ans_UnwoundBy L fn arg fu k = unA (ranM L fn arg fu) k ∧ ok_UnwoundBy L fn arg fu k = pnoB (ranM L fn arg fu) k := by unfold ans_UnwoundBy ok_UnwoundBy; rw [h, Int.toNat_natCast]; exact ⟨rfl, rfl⟩
theorem impl_UnwoundByA (S : HP) (w : World) [H : SepI w S] (A : Option Addr) (c : Nat) (bs : List Bd) [r : Rd S A (cBds bs)] [B : Bodies S bs] (fn arg fuel k : Int) :
    Calls Try.prog 34 #[.agg #[.slice A bs.length c], .int .i64 fn, .int .i64 arg, .int .i64 fuel, .int .i64 k] w (IntsOk S (ans_UnwoundBy (bs.map (·.l)) fn arg fuel k) (ok_UnwoundBy (bs.map (·.l)) fn arg fuel k) w) := by
  obtain ⟨v, hv⟩ : ∃ v, askB (bs.map (·.l)) fn arg fuel = v := ⟨_, rfl⟩
  cases v
  · rw [(un_no hv).1, (un_no hv).2]; exact impl_UnwoundByN S w A c bs fn arg fuel k hv
  · obtain ⟨fu, rfl⟩ : ∃ fu : Nat, fuel = fu := ⟨fuel.toNat, by have := (askB_of hv).2.2.2.1; omega⟩
    rw [(un_yes hv).1, (un_yes hv).2]; exact impl_UnwoundByV S w A c bs fn arg fu _ rfl hv k
theorem spec_UnwoundByA (S : HP) (w : World) [H : SepI w S] (A : Option Addr) (c : Nat) (bs : List Bd) [r : Rd S A (cBds bs)] [B : Bodies S bs] (hnn : NoneNil bs) (fn arg fuel k : Int) :
    Calls Try.prog 33 #[.agg #[.slice A bs.length c], .int .i64 fn, .int .i64 arg, .int .i64 fuel, .int .i64 k] w (IntsOk S (ans_UnwoundBy (bs.map (·.l)) fn arg fuel k) (ok_UnwoundBy (bs.map (·.l)) fn arg fuel k) w) := by
  obtain ⟨v, hv⟩ : ∃ v, askB (bs.map (·.l)) fn arg fuel = v := ⟨_, rfl⟩
  cases v
  · rw [(un_no hv).1, (un_no hv).2]; exact spec_UnwoundByN S w A c bs fn arg fuel k hv
  · obtain ⟨fu, rfl⟩ : ∃ fu : Nat, fuel = fu := ⟨fuel.toNat, by have := (askB_of hv).2.2.2.1; omega⟩
    rw [(un_yes hv).1, (un_yes hv).2]; exact spec_UnwoundByV S w A c bs hnn fn arg fu _ rfl hv k
theorem small_UnwoundBy (L : List (List St)) (fn arg fuel k : Int) : (ans_UnwoundBy L fn arg fuel k).length ≤ 1048576 := by
  obtain ⟨v, hv⟩ : ∃ v, askB L fn arg fuel = v := ⟨_, rfl⟩
  cases v
  · rw [(un_no hv).1]; simp
  · obtain ⟨fu, rfl⟩ : ∃ fu : Nat, fuel = fu := ⟨fuel.toNat, by have := (askB_of hv).2.2.2.1; omega⟩
    rw [(un_yes hv).1]
    have FF := factsB hv
    have hts := FF.ts
    unfold unA
    split
    · rw [List.getD_eq_getElem?_getD]
      cases e : ((ranM L fn arg fu).m.panics.map (fun p : Pn => p.un))[k.toNat]? with
      | none => simp
      | some u =>
        obtain ⟨p, hp, rfl⟩ := List.mem_map.1 (List.mem_of_getElem? e)
        have := FF.bl.u p hp
        show p.un.length ≤ _
        omega
    · simp
end Go.Proofs.Ytobikkdnalnllaa
