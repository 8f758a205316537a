/- RecoverGaps, by the program and by the reference. Conditions: lengths within bounds. -/
import Derived.Test.YtobikkdnalnllaaZq
import Derived.Test.YtobikkdnalnllaaZr
import Derived.Test.YtobikkdnalnllaaQn
import Derived.Test.YtobikkdnalnllaaQl
namespace Go.Proofs.Ytobikkdnalnllaa
open Go.RowKit SL
attribute [local go_sem] cell_blk frozen_blk lt_blk cell_at frozen_row lt_row
set_option linter.unusedVariables false
set_option linter.unusedSimpArgs false
theorem MRd.dropZ {S0 S X : HP} {gm : Nat} {A : Option Addr} {n c : Nat} {fuel : Int} {R : Run} {x : MVs} (M : MRd S0 S gm A n c fuel R x) : MRd (X * S0) S gm A n c fuel R x := by
  have := M.blk
  have := M.tr
  have := M.ow
  have := M.ca
  have := M.pa
  have := M.rc
  refine ⟨inferInstance, inferInstance, inferInstance, inferInstance, inferInstance, inferInstance, fun {Y w} H => ?_, fun H => M.out0 H.right, fun H => M.us H.right⟩
  have h1 : SepI w ((Y * X) * S0) := SepI.cast H (star_assoc _ _ _).symm
  have h2 : SepI w (Y * (X * S)) := SepI.cast (M.out h1) (star_assoc _ _ _)
  exact Ent.sep (S := _) inferInstance h2
def gapV (m : Ma) (q : Rc) : Int := IntKind.i64.wrap ((m.panics.map (fun p => p.de)).getD q.pa.toNat 0 - (depA (m.calls.map c5)).getD q.sa.toNat 0)
def gapA (m : Ma) : List Int := m.recs.map (gapV m)
theorem gapV_eq {m : Ma} {ca : Int} {s p : Nat} {x : Pn} {d : Int} (h1 : m.panics[p]? = some x) (h2 : (depA (m.calls.map c5))[s]? = some d) : gapV m ⟨ca, s, p⟩ = IntKind.i64.wrap (x.de - d) := by
  unfold gapV
  simp only [Int.toNat_natCast]
  rw [List.getD_eq_getElem?_getD, List.getElem?_map, h1, List.getD_eq_getElem?_getD, h2]; rfl
theorem rec_at {R : Run} (FC : Facts R) {q : Rc} (hq : q ∈ R.m.recs) : ∃ s p : Nat, q.sa = (s : Int) ∧ q.pa = (p : Int) ∧ s < R.m.calls.length ∧ p < R.m.panics.length := by
  obtain ⟨h1, ⟨cl, hcl, hup⟩, h3, h4, h5⟩ := FC.rs.ok q hq
  have h6 := FC.cs.up _ _ hcl
  have h7 := (List.getElem?_eq_some_iff.1 hcl).1
  exact ⟨q.sa.toNat, q.pa.toNat, by omega, by omega, by omega, h5⟩
set_option maxRecDepth 100000 in
set_option maxHeartbeats 8000000 in
theorem impl_RecoverGaps1 (S0 S : HP) (w : World) [H : SepI w S0] (gm : Nat) (A : Option Addr) (n c : Nat) (fuel : Int) (R : Run) (x : MVs) (M : MRd S0 S gm A n c fuel R x) (hps : x.ps.map (·.p) = R.m.panics) (FC : Facts R) (q : Rc) (hq : q ∈ R.m.recs) :
    Calls Try.prog 85 #[.pointer (some ⟨gm, 0, none⟩), .agg #[.int .i64 q.ca, .int .i64 q.sa, .int .i64 q.pa]] w fun e w' => e = .returned (.int .i64 (gapV R.m q)) ∧ Post w S0 w' := by
  obtain ⟨s, p, hs, hp, hsl, hpl⟩ := rec_at FC hq
  have hpl2 : x.ps.length = R.m.panics.length := by rw [← hps, List.length_map]
  obtain ⟨y, hy⟩ := get_ex (xs := x.ps) (k := p) (by omega)
  have hy2 : R.m.panics[p]? = some y.p := by rw [← hps, List.getElem?_map, hy]; rfl
  have hdl : (depA (R.m.calls.map c5)).length = R.m.calls.length := by rw [depA_len, List.length_map]
  obtain ⟨d, hd⟩ := get_ex (xs := depA (R.m.calls.map c5)) (k := s) (by omega)
  obtain ⟨qa, qs, qp⟩ := q
  simp only at hs hp
  subst hs hp
  rw [gapV_eq hy2 hd]
  have hcl : R.m.calls.length ≤ 1000 := by have h1 := FC.bl.c; have h2 := FC.ts; omega
  obtain ⟨nc, hnc⟩ : ∃ nc, nc = R.m.calls.length := ⟨_, rfl⟩
  have HDP : Hd (∀ w', SepI w' (pts w.heap.size (.cells #[.int .i64 qa, .int .i64 (s : Int), .int .i64 (p : Int)] 90 (0, 0)) * S0) → Calls Try.prog 86 #[.pointer (some ⟨gm, 0, none⟩)] w' (IntsPost (pts w.heap.size (.cells #[.int .i64 qa, .int .i64 (s : Int), .int .i64 (p : Int)] 90 (0, 0)) * S0) (depA (R.m.calls.map c5)) w')) := ⟨fun w' h => @impl_depths _ S w' h gm A n c fuel R x M.dropZ FC⟩
  have HDL : Hd ((depA (R.m.calls.map c5)).length = nc) := ⟨by omega⟩
  have HDD : Hd (∀ (g c : Nat) (F : HP), CellAt (Row 3 1 (.slice (some ⟨g, 0, none⟩) nc c) nc (ints (depA (R.m.calls.map c5))) * F) g s (.int .i64 d)) := ⟨fun g c F => Row.cellAt (ints_get hd)⟩
  obtain ⟨de, hde⟩ : ∃ de, y.p.de = de := ⟨_, rfl⟩
  obtain ⟨v, hv⟩ : ∃ v, IntKind.i64.wrap (de - d) = v := ⟨_, rfl⟩
  obtain ⟨A1, c1, A2, c2, A3, c3, A4, c4, A5, c5', bm, ps⟩ := x
  have i1 := M.blk
  have rP := M.pa
  dsimp only at i1 rP hy hps hpl2
  obtain ⟨np, hnp⟩ : ∃ np, np = ps.length := ⟨_, rfl⟩
  have hpn : p < np := by omega
  have hsn : s < nc := by omega
  rw [← hnp] at i1
  obtain ⟨bP, oP, rfl⟩ := rP.addr H (j := p) (by rw [cPvs_len]; omega)
  have e3 := rP.cell (cPvs_at hy).2.2.2.1
  rw [hde] at e3 ⊢
  rw [hv]
  clear M hps hpl hpl2 hsl hy hy2 hd hdl hde hnc hnp hcl hq FC
  go_enter Try.func85, Try.ntmps85
  go_wp2
  refine wp_region_W 15 17 (by kernel_rfl) (by kernel_rfl) (fun w' => w'.cell? ⟨gm, 9, none⟩ = some (.slice (some ⟨bP, oP, none⟩) np c4) ∧ w'.cell? ⟨w.heap.size, 1, none⟩ = some (.int .i64 (s : Int)) ∧ w'.cell? ⟨w.heap.size, 2, none⟩ = some (.int .i64 (p : Int)) ∧ w'.cell? ⟨bP, oP + p * 9 + 3, none⟩ = some (.int .i64 de)) ⟨cb, cb, cb, cell_at _ _ _ _ _⟩ (fun hHeld => ?_)
  refine tkp 0 hHeld ?_
  refine tkp 1 hHeld ?_
  refine tkp 2 hHeld ?_
  refine tkl 3 hHeld ?_
  refine tkp 4 hHeld ?_
  refine tkl 5 hHeld ?_
  refine tkp 6 hHeld ?_
  refine tkp 7 hHeld ?_
  refine tkl 8 hHeld ?_
  refine tkp 9 hHeld ?_
  refine tkp 11 hHeld ?_
  refine tkl 12 hHeld ?_
  refine wpAnyW_one false (i := 10) (by kernel_rfl) rfl (by kernel_rfl) (by rfl) (fun KK hKK => ?_)
  refine st_list rfl ?_
  go_wp2_with fail
  refine (HDP.out _ inferInstance).mono ?_
  rintro e5 w5 ⟨Ad, cd, rfl, HP5⟩
  rw [HDL.out] at HP5 ⊢
  have HS5 := HP5.sep
  have HE5 := HP5.ext
  clear HP5
  obtain ⟨gd, rfl⟩ := Row.addr HS5 (by omega)
  have dd := HDD.out gd cd
  go_wp2
  refine ⟨rfl, ?_⟩
  refine hKK.out _ _ (.inr ⟨cb, cb, cb, cell_at _ _ _ _ _⟩) (fun hHeld => ?_)
  clear hKK KK
  try simp only [Act.put, List.setIfInBounds_toArray, List.set_cons_zero, List.set_cons_succ]
  refine tkp 13 hHeld ?_
  refine wpAnyW_one false (i := 14) (by kernel_rfl) rfl (by kernel_rfl) (by rfl) (fun KK hKK => ?_)
  refine st_list rfl ?_
  go_wp2
  refine ⟨rfl, ?_⟩
  refine hKK.out _ _ (.inr ⟨cb, cb, cb, cell_at _ _ _ _ _⟩) (fun hHeld => ?_)
  clear hKK KK
  try simp only [Act.put, List.setIfInBounds_toArray, List.set_cons_zero, List.set_cons_succ]
  refine wpAnyW_done (by kernel_rfl) ?_
  go_wp2
  go_ret
  exact ⟨rfl, Post.mk' (Ent.sep (S := _) inferInstance inferInstance) inferInstance⟩
set_option maxRecDepth 100000 in
set_option maxHeartbeats 8000000 in
theorem impl_RecoverGapsN (S : HP) (w : World) [H : SepI w S] (A : Option Addr) (c : Nat) (bs : List Bd) [r : Rd S A (cBds bs)] [B : Bodies S bs] (fn arg fuel : Int) (hv : askB (bs.map (·.l)) fn arg fuel = false) :
    Calls Try.prog 52 #[.agg #[.slice A bs.length c], .int .i64 fn, .int .i64 arg, .int .i64 fuel] w (IntsOk S [] false w) := by
  have HV := Hd.mk hv
  clear hv
  go_enter Try.func52, Try.ntmps52
  go_wp2_with fail
  refine (impl_ofRecoveriesN _ _ A c bs fn arg fuel _ _ HV.out).mono ?_
  rintro e w1 ⟨A1, c1, rfl, HP⟩
  have HS1 : SepI w1 (Row 3 1 (.slice A1 0 c1) 0 [] * (pts w.heap.size (.cells #[.slice A bs.length c] 31 (0, 0)) * S)) := HP.sep
  have HE1 := HP.ext
  clear HP
  go_wp2
  go_ret2
  exact IntsOk.nil (v := .slice A1 0 c1) (Post.mk' (Ent.sep (S := _) inferInstance inferInstance) inferInstance)
set_option maxRecDepth 100000 in
set_option maxHeartbeats 8000000 in
theorem impl_RecoverGapsV (S : HP) (w : World) [H : SepI w S] (A : Option Addr) (c : Nat) (bs : List Bd) [r : Rd S A (cBds bs)] [B : Bodies S bs] (fn arg : Int) (fu : Nat) (L : List (List St)) (hbs : bs.map (·.l) = L) (hv : askB L fn arg fu = true) :
    Calls Try.prog 52 #[.agg #[.slice A bs.length c], .int .i64 fn, .int .i64 arg, .int .i64 fu] w (IntsOk S (gapA (ranM L fn arg fu).m) true w) := by
  have HV := Hd.mk hv
  have HB := Hd.mk hbs
  have HF := Hd.mk (factsB hv)
  clear hv hbs
  obtain ⟨ans, hans⟩ : ∃ ans, gapA (ranM L fn arg fu).m = ans := ⟨_, rfl⟩
  have HANS : Hd ((ranM L fn arg fu).m.recs.map (gapV (ranM L fn arg fu).m) = ans) := ⟨hans⟩
  rw [hans]
  clear hans
  have HEN : Hd (Enters 85) := ⟨fun args w => by go_simp⟩
  go_enter Try.func52, Try.ntmps52
  go_wp2_with fail
  have HE0 : SepI (w.alloc (.cells #[.slice A bs.length c] 31 (0, 0))) (emp * (pts w.heap.size (.cells #[.slice A bs.length c] 31 (0, 0)) * S)) := SepI.emp inferInstance
  refine (@impl_ofRecoveriesV _ (fun _ => emp) _ HE0 A c bs inferInstance inferInstance _ _ (fun k => gapV (ranM L fn arg fu).m ((ranM L fn arg fu).m.recs.getD k ⟨0, 0, 0⟩)) HEN.out fn arg fu L HB.out HV.out ?_).mono ?_
  · intro X gm x S0 M hp k q hq X2 W HW
    have e : (ranM L fn arg fu).m.recs.getD k ⟨0, 0, 0⟩ = q := by rw [List.getD_eq_getElem?_getD, hq]; rfl
    have HW1 : SepI W ((X2 * emp) * S0) := SepI.cast HW (star_assoc _ _ _).symm
    refine (@impl_RecoverGaps1 _ _ W HW1 gm A bs.length c fu _ x M.dropZ hp HF.out q (List.mem_of_getElem? hq)).mono ?_
    rintro e1 w1 ⟨rfl, h⟩
    exact ⟨by show _ = Ending.returned (.int .i64 (gapV (ranM L fn arg fu).m ((ranM L fn arg fu).m.recs.getD k ⟨0, 0, 0⟩))); rw [e], ⟨SepI.cast h.sep (star_assoc _ _ _), h.ext⟩⟩
  · rw [map_range_get _ (gapV (ranM L fn arg fu).m), HANS.out]
    rintro e w1 ⟨A1, c1, rfl, HP⟩
    have HS1 := HP.sep
    have HE1 := HP.ext
    clear HP
    go_wp2
    go_ret2
    exact IntsOk.of (v := .slice A1 ans.length c1) (Post.mk' (Ent.sep (S := _) inferInstance inferInstance) inferInstance)
set_option maxRecDepth 100000 in
set_option maxHeartbeats 8000000 in
theorem spec_RecoverGapsN (S : HP) (w : World) [H : SepI w S] (A : Option Addr) (c : Nat) (bs : List Bd) [r : Rd S A (cBds bs)] [B : Bodies S bs] (fn arg fuel : Int) (hv : askB (bs.map (·.l)) fn arg fuel = false) :
    Calls Try.prog 51 #[.agg #[.slice A bs.length c], .int .i64 fn, .int .i64 arg, .int .i64 fuel] w (IntsOk S [] false w) := by
  have hbn := B.n
  have HV := Hd.mk hv
  clear hv
  obtain ⟨bf, hbf⟩ : ∃ bf, bf = w.heap.size + 1 := ⟨_, rfl⟩
  have HBF := Hd.mk hbf
  clear hbf
  have hnot : ∀ (x : Bool) (w : World), (Op.unary .not (.bool x)).run Try.prog w = .ok (.bool (!x)) w := fun _ _ => rfl
  go_enter Try.func51, Try.ntmps51
  go_wp2_with fail
  refine (spec_l2Ask _ _ A c bs fn arg fuel _ HV.out).mono ?_
  rintro e w1 ⟨rfl, HP⟩
  have HS1 := HP.sep
  have HE1 := HP.ext
  clear HP
  have HS2 := Row.lit0 (size := 1) HS1
  go_wp2
  go_ret2
  exact IntsOk.nil (v := .slice (some ⟨w.heap.size + 1, 0, none⟩) 0 0) (Post.mk' (Ent.sep (S := _) inferInstance HS2) inferInstance)
set_option maxRecDepth 100000 in
set_option maxHeartbeats 8000000 in
theorem spec_RecoverGapsV (S : HP) (w : World) [H : SepI w S] (A : Option Addr) (c : Nat) (bs : List Bd) [r : Rd S A (cBds bs)] [B : Bodies S bs] (hnn : NoneNil bs) (fn arg : Int) (fu : Nat) (L : List (List St)) (hbs : bs.map (·.l) = L) (hv : askB L fn arg fu = true) :
    Calls Try.prog 51 #[.agg #[.slice A bs.length c], .int .i64 fn, .int .i64 arg, .int .i64 fu] w (IntsOk S (gapA (ranM L fn arg fu).m) true w) := by
  have HNN := Hd.mk hnn
  have HV2 : Hd (askB (bs.map (·.l)) fn arg fu = true) := ⟨by rw [hbs]; exact hv⟩
  clear hnn
  have hbn := B.n
  have HV := Hd.mk hv
  have HB := Hd.mk hbs
  have HF := Hd.mk (factsB hv)
  clear hv hbs
  obtain ⟨R, hR⟩ : ∃ R, ranM L fn arg fu = R := ⟨_, rfl⟩
  have HR := Hd.mk hR
  rw [hR] at HF ⊢
  clear hR
  obtain ⟨BY, hBY⟩ : ∃ BY, recA R.m = BY := ⟨_, rfl⟩
  obtain ⟨MD, hMD⟩ : ∃ MD, R.m.panics.map (fun p => p.de) = MD := ⟨_, rfl⟩
  obtain ⟨DP, hDP⟩ : ∃ DP, depA (R.m.calls.map c5) = DP := ⟨_, rfl⟩
  obtain ⟨SV, hSV⟩ : ∃ SV, R.m.recs.map (fun r => r.sa) = SV := ⟨_, rfl⟩
  have hts := HF.out.ts
  have hblc := HF.out.bl.c
  have hblp := HF.out.bl.p
  have hblr := HF.out.bl.r
  obtain ⟨m, hm⟩ : ∃ m, R.m.recs.length = m := ⟨_, rfl⟩
  obtain ⟨np, hnp⟩ : ∃ np, R.m.panics.length = np := ⟨_, rfl⟩
  obtain ⟨nc, hnc⟩ : ∃ nc, R.m.calls.length = nc := ⟨_, rfl⟩
  have HLB : Hd (BY.length = m) := ⟨by rw [← hBY, recA_len, hm]⟩
  have HLM : Hd (MD.length = np) := ⟨by rw [← hMD, List.length_map, hnp]⟩
  have HLD : Hd (DP.length = nc) := ⟨by rw [← hDP, depA_len, List.length_map, hnc]⟩
  have HLS : Hd (SV.length = m) := ⟨by rw [← hSV, List.length_map, hm]⟩
  have hml : m ≤ 1000 := by omega
  have HA1 : Hd (ans_RecoveredBy (bs.map (·.l)) fn arg fu = BY ∧ ok_RecoveredBy (bs.map (·.l)) fn arg fu = true) := ⟨by rw [HB.out, ans_RecoveredBy_yes HV.out, HR.out, hBY]; exact ⟨rfl, HV.out⟩⟩
  have HA2 : Hd (ans_PanicDepths (bs.map (·.l)) fn arg fu = MD ∧ ok_PanicDepths (bs.map (·.l)) fn arg fu = true) := ⟨by rw [HB.out, ans_PanicDepths_yes HV.out, HR.out, hMD]; exact ⟨rfl, HV.out⟩⟩
  have HA3 : Hd (ans_DepthsOf (bs.map (·.l)) fn arg fu = DP ∧ ok_DepthsOf (bs.map (·.l)) fn arg fu = true) := ⟨by unfold ans_DepthsOf ok_DepthsOf; rw [HB.out, ans_CallTree_yes HV.out, HR.out, hDP]; exact ⟨rfl, HV.out⟩⟩
  have HSV : Hd (savA R.m.trace R.m.owners (R.m.calls.map c5) = SV) := ⟨by rw [sav_eq HF.out, hSV]⟩
  have H6 : Hd (∀ (i : Nat) (e : Ev) (o : Int), R.m.trace[i]? = some e → R.m.owners[i]? = some o → e.k = 6 → ∃ j : Nat, o = j ∧ j < (R.m.calls.map c5).length) := ⟨fun i e o h1 h2 h3 => by rw [List.length_map]; exact own6 HF.out h1 h2 h3⟩
  have HCL : Hd ((R.m.calls.map c5).length ≤ 1000) := ⟨by rw [List.length_map]; omega⟩
  obtain ⟨O, hO⟩ : ∃ O : Nat → List Int, O = fun i => (R.m.recs.take i).map (gapV R.m) := ⟨_, rfl⟩
  have HO0 : Hd (O 0 = []) := ⟨by rw [hO]; rfl⟩
  have HOM : Hd (O m = gapA R.m) := ⟨by rw [hO, ← hm]; unfold gapA; simp only [List.take_length]⟩
  have HOL : Hd (∀ i : Nat, (O i).length ≤ i) := ⟨fun i => by rw [hO]; simp only [List.length_map, List.length_take]; omega⟩
  have HAT : Hd (∀ i : Nat, i < m → ∃ (p s : Nat) (f de d : Int), BY[i]? = some ((p : Int), f) ∧ MD[p]? = some de ∧ SV[i]? = some (s : Int) ∧ DP[s]? = some d ∧ O (i + 1) = O i ++ [IntKind.i64.wrap (de - d)]) := ⟨fun i hi => by
    obtain ⟨q, hq⟩ := get_ex (xs := R.m.recs) (k := i) (by omega)
    obtain ⟨s, p, hs, hp, hsl, hpl⟩ := rec_at HF.out (List.mem_of_getElem? hq)
    obtain ⟨y, hy⟩ := get_ex (xs := R.m.panics) (k := p) hpl
    obtain ⟨d, hd⟩ := get_ex (xs := DP) (k := s) (by rw [HLD.out]; omega)
    refine ⟨p, s, fnOf R.m q.ca, y.de, d, ?_, ?_, ?_, hd, ?_⟩
    · rw [← hBY]; unfold recA; rw [List.getElem?_map, hq, ← hp]; rfl
    · rw [← hMD, List.getElem?_map, hy]; rfl
    · rw [← hSV, List.getElem?_map, hq, ← hs]; rfl
    · rw [hO]; simp only
      rw [take_succ_eq hq, List.map_append]
      obtain ⟨qa, qs, qp⟩ := q
      simp only at hs hp
      subst hs hp
      rw [List.map_cons, List.map_nil, gapV_eq hy (by rw [hDP]; exact hd)]⟩
  rw [← HOM.out]
  clear hO hBY hMD hDP hSV
  obtain ⟨bf, hbf⟩ : ∃ bf, bf = w.heap.size + 1 := ⟨_, rfl⟩
  have HBF := Hd.mk hbf
  clear hbf
  have hnot : ∀ (x : Bool) (w : World), (Op.unary .not (.bool x)).run Try.prog w = .ok (.bool (!x)) w := fun _ _ => rfl
  go_enter Try.func51, Try.ntmps51
  go_wp2_with fail
  refine (spec_l2Ask _ _ A c bs fn arg fu _ HV2.out).mono ?_
  rintro e w1 ⟨rfl, HP⟩
  have HS1 := HP.sep
  have HE1 := HP.ext
  clear HP
  go_wp2_with fail
  refine (spec_RecoveredByA _ _ A c bs HNN.out fn arg fu).mono ?_
  rw [HA1.out.1, HA1.out.2]
  rintro e w2 ⟨Ab, cb, rfl, HP⟩
  rw [HLB.out, ← cPr_flat] at HP
  rw [HLB.out]
  have HS2 := HP.sep
  have HE2 := HP.ext
  clear HP
  go_wp2_with fail
  refine (spec_PanicDepthsA _ _ A c bs HNN.out fn arg fu).mono ?_
  rw [HA2.out.1, HA2.out.2]
  rintro e w3 ⟨Am, cm, rfl, HP⟩
  rw [HLM.out] at HP ⊢
  have HS3 := HP.sep
  have HE3 := HP.ext
  clear HP
  go_wp2_with fail
  refine (spec_DepthsOfA _ _ A c bs HNN.out fn arg fu).mono ?_
  rw [HA3.out.1, HA3.out.2]
  rintro e w4 ⟨Ad, cd, rfl, HP⟩
  rw [HLD.out] at HP ⊢
  have HS4 := HP.sep
  have HE4 := HP.ext
  clear HP
  go_wp2_with fail
  refine (spec_runX _ _ A c bs HNN.out fn arg fu L HB.out HV.out).mono ?_
  rw [HR.out]
  rintro e w5 ⟨At, ct, rfl, HP⟩
  have HS5 := HP.sep
  have HE5 := HP.ext
  clear HP
  try simp only []
  rename_i hK
  refine hK _ _ ?_
  clear hK
  refine ev_val rfl _ rfl ?_
  go_wp2_with fail
  obtain ⟨now, hr3⟩ := HF.out.r3
  have HR3 := Hd.mk hr3
  clear hr3
  refine (@spec_l5Saved _ w5 HS5 At ct R.m.trace inferInstance HF.out.ts _ _ now HR3.out HF.out.len HCL.out H6.out).mono ?_
  rw [HSV.out]
  rintro e w6 ⟨As, cs, rfl, HP⟩
  rw [HLS.out] at HP ⊢
  have HS6 := HP.sep
  have HE6 := HP.ext
  clear HP
  have HS7 : SepI w6 (Row 3 1 (.slice (some ⟨w.heap.size + 1, 0, none⟩) 0 0) 0 [] * (Row 3 1 (.slice As m cs) m (ints SV) * (Row 3 1 (.slice Ad nc cd) nc (ints DP) * (Row 3 1 (.slice Am np cm) np (ints MD) * (Row 112 2 (.slice Ab m cb) m (cPr BY) * (pts w.heap.size (.cells #[.slice A bs.length c] 31 (0, 0)) * S)))))) := Ent.sep (S := _) inferInstance (Row.lit0 (size := 1) (SepI.pick (A := pts (w.heap.size + 1) (.cells #[] 3 (0, 0))) HS6 inferInstance))
  obtain ⟨S2, HS8, dB, dM, dD, dS, hout⟩ : ∃ S2 : HP, SepI w6 (Row 3 1 (.slice (some ⟨w.heap.size + 1, 0, none⟩) 0 0) 0 [] * S2) ∧ Rd S2 Ab (cPr BY) ∧ Rd S2 Am (ints MD) ∧ Rd S2 Ad (ints DP) ∧ Rd S2 As (ints SV) ∧ (∀ (w : World) (X : HP), SepI w (X * S2) → SepI w (X * S)) := ⟨_, HS7, inferInstance, inferInstance, inferInstance, inferInstance, fun w X H => Ent.sep (S := _) inferInstance H⟩
  have HOUT := Hd.mk hout
  clear hout HS6 HS7
  go_wp2
  go_loopw [10, 18] (fun v10 v18 wr => ∃ (i : Nat) (vv : Value), i ≤ m ∧ v18 = .int .i64 i ∧ v10 = vv ∧ ExtI w wr ∧ SepI wr (Row 3 1 vv (O i).length (ints (O i)) * S2)) (fun _ v _ => m - (intOf v).toNat)
  case atStart => exact ⟨0, .slice (some ⟨w.heap.size + 1, 0, none⟩) 0 0, Nat.zero_le _, rfl, rfl, inferInstance, by rw [HO0.out]; exact HS8⟩
  case round =>
    obtain ⟨i, vv, hi, rfl, rfl, HX, HS9⟩ := hrel
    obtain ⟨A0, c0, rfl, hc0, hc1⟩ := Row.form HS9
    by_cases hlt : i < m
    · obtain ⟨p, s, f0, de, d, g1, g2, g3, g4, g5⟩ := HAT.out i hlt
      obtain ⟨gB, oB, rfl⟩ := dB.addr HS8.right (j := i) (by rw [cPr_len, HLB.out]; omega)
      obtain ⟨gM, oM, rfl⟩ := dM.addr HS8.right (j := p) (by rw [ints_len]; exact (List.getElem?_eq_some_iff.1 g2).1)
      obtain ⟨gS, oS, rfl⟩ := dS.addr HS8.right (j := i) (by rw [ints_len]; exact (List.getElem?_eq_some_iff.1 g3).1)
      obtain ⟨gD, oD, rfl⟩ := dD.addr HS8.right (j := s) (by rw [ints_len]; exact (List.getElem?_eq_some_iff.1 g4).1)
      have hpn : p < np := by rw [← HLM.out]; exact (List.getElem?_eq_some_iff.1 g2).1
      have hsn : s < nc := by rw [← HLD.out]; exact (List.getElem?_eq_some_iff.1 g4).1
      have e1 := dB.cell (cPr_get g1).1
      have e2 := dM.cell (ints_get g2)
      have e3 := dS.cell (ints_get g3)
      have e4 := dD.cell (ints_get g4)
      simp only at e1
      obtain ⟨v, hv⟩ : ∃ v, IntKind.i64.wrap (de - d) = v := ⟨_, rfl⟩
      rw [hv] at g5
      have hol : (O i).length ≤ 1000 := by have := HOL.out i; omega
      have HOO : Hd (ints (O i) ++ #[.int .i64 v].toList = ints (O (i + 1))) := ⟨by rw [g5, ints_append]; rfl⟩
      have HLL : Hd ((O i).length + 1 = (O (i + 1)).length) := ⟨by rw [g5]; simp⟩
      clear g1 g2 g3 g4 g5
      go_wp2
      refine wp_region_W 18 20 (by kernel_rfl) (by kernel_rfl) (fun w' => w'.cell? ⟨gB, oB + i * 2, none⟩ = some (.int .i64 (p : Int)) ∧ w'.cell? ⟨gM, oM + p, none⟩ = some (.int .i64 de) ∧ w'.cell? ⟨gS, oS + i, none⟩ = some (.int .i64 (s : Int)) ∧ w'.cell? ⟨gD, oD + s, none⟩ = some (.int .i64 d)) ⟨cell_at _ _ _ _ _, cell_at _ _ _ _ _, cell_at _ _ _ _ _, cell_at _ _ _ _ _⟩ (fun hHeld => ?_)
      refine tkp 0 hHeld ?_
      refine tkp 1 hHeld ?_
      refine tkp 2 hHeld ?_
      refine tkp 3 hHeld ?_
      refine tkp 4 hHeld ?_
      refine tkp 5 hHeld ?_
      refine tkl 6 hHeld ?_
      refine tkp 7 hHeld ?_
      refine tkl 8 hHeld ?_
      refine tkp 9 hHeld ?_
      refine tkp 10 hHeld ?_
      refine tkp 11 hHeld ?_
      refine tkp 12 hHeld ?_
      refine tkl 13 hHeld ?_
      refine tkp 14 hHeld ?_
      refine tkl 15 hHeld ?_
      refine tkp 16 hHeld ?_
      refine wpAnyW_one false (i := 17) (by kernel_rfl) rfl (by kernel_rfl) (by rfl) (fun KK hKK => ?_)
      refine st_list rfl ?_
      go_wp2
      refine ⟨rfl, ?_⟩
      refine hKK.out _ _ (.inr ⟨cell_at _ _ _ _ _, cell_at _ _ _ _ _, cell_at _ _ _ _ _, cell_at _ _ _ _ _⟩) (fun hHeld => ?_)
      clear hKK KK
      try simp only [Act.put, List.setIfInBounds_toArray, List.set_cons_zero, List.set_cons_succ]
      refine wpAnyW_done (by kernel_rfl) ?_
      refine ev_append (v := .slice A0 (O i).length c0) rfl _ _ 26 rfl ?_ 8 _ Try.underlying26 info_int rfl (by decide) (by decide) (wr.heap.size) 1 1 ?_ rfl (by simp [Value.oneCell']) (by omega) ?_
      rfl
      rfl
      intro v1 w6 HS6 HE6
      replace HS6 := Row.as HS6 HLL.out HOO.out
      go_wp2
      go_roundw
      case rel => exact ⟨i + 1, v1, by omega, by go_num, rfl, inferInstance, Ent.sep (S := _) (T := Row 3 1 v1 (O (i + 1)).length (ints (O (i + 1))) * S2) inferInstance HS6⟩
      case measure => (simp [intOf]; try omega)
    · have : i = m := by omega
      subst this
      go_wp2
      go_ret2
      exact IntsOk.of (v := .slice A0 (O i).length c0) (Post.mk' (Ent.sep (S := _) inferInstance (HOUT.out _ _ HS9)) inferInstance)
def ok_RecoverGaps (L : List (List St)) (fn arg fuel : Int) : Bool := askB L fn arg fuel
def ans_RecoverGaps (L : List (List St)) (fn arg fuel : Int) : List Int := if askB L fn arg fuel then gapA (ranM L fn arg fuel.toNat).m else []
theorem ans_RecoverGaps_yes {L : List (List St)} {fn arg : Int} {fu : Nat} (h : askB L fn arg fu = true) : ans_RecoverGaps L fn arg fu = gapA (ranM L fn arg fu).m := by unfold ans_RecoverGaps; rw [if_pos h]; rfl
theorem ans_RecoverGaps_no {L : List (List St)} {fn arg fuel : Int} (h : askB L fn arg fuel = false) : ans_RecoverGaps L fn arg fuel = [] := by unfold ans_RecoverGaps; rw [h]; rfl
theorem impl_RecoverGapsA (S : HP) (w : World) [H : SepI w S] (A : Option Addr) (c : Nat) (bs : List Bd) [r : Rd S A (cBds bs)] [B : Bodies S bs] (fn arg fuel : Int) :
    Calls Try.prog 52 #[.agg #[.slice A bs.length c], .int .i64 fn, .int .i64 arg, .int .i64 fuel] w (IntsOk S (ans_RecoverGaps (bs.map (·.l)) fn arg fuel) (ok_RecoverGaps (bs.map (·.l)) fn arg fuel) w) := by
  obtain ⟨v, hv⟩ : ∃ v, askB (bs.map (·.l)) fn arg fuel = v := ⟨_, rfl⟩
  have e : ok_RecoverGaps (bs.map (·.l)) fn arg fuel = v := hv
  rw [e]
  cases v
  · rw [ans_RecoverGaps_no hv]; exact impl_RecoverGapsN S w A c bs fn arg fuel hv
  · obtain ⟨fu, rfl⟩ : ∃ fu : Nat, fuel = fu := ⟨fuel.toNat, by have := (askB_of hv).2.2.2.1; omega⟩
    rw [ans_RecoverGaps_yes hv]; exact impl_RecoverGapsV S w A c bs fn arg fu _ rfl hv
theorem spec_RecoverGapsA (S : HP) (w : World) [H : SepI w S] (A : Option Addr) (c : Nat) (bs : List Bd) [r : Rd S A (cBds bs)] [B : Bodies S bs] (hnn : NoneNil bs) (fn arg fuel : Int) :
    Calls Try.prog 51 #[.agg #[.slice A bs.length c], .int .i64 fn, .int .i64 arg, .int .i64 fuel] w (IntsOk S (ans_RecoverGaps (bs.map (·.l)) fn arg fuel) (ok_RecoverGaps (bs.map (·.l)) fn arg fuel) w) := by
  obtain ⟨v, hv⟩ : ∃ v, askB (bs.map (·.l)) fn arg fuel = v := ⟨_, rfl⟩
  have e : ok_RecoverGaps (bs.map (·.l)) fn arg fuel = v := hv
  rw [e]
  cases v
  · rw [ans_RecoverGaps_no hv]; exact spec_RecoverGapsN S w A c bs fn arg fuel hv
  · obtain ⟨fu, rfl⟩ : ∃ fu : Nat, fuel = fu := ⟨fuel.toNat, by have := (askB_of hv).2.2.2.1; omega⟩
    rw [ans_RecoverGaps_yes hv]; exact spec_RecoverGapsV S w A c bs hnn fn arg fu _ rfl hv
theorem small_RecoverGaps (L : List (List St)) (fn arg fuel : Int) : (ans_RecoverGaps L fn arg fuel).length ≤ 1048576 := by
  obtain ⟨v, hv⟩ : ∃ v, askB L fn arg fuel = v := ⟨_, rfl⟩
  cases v
  · rw [ans_RecoverGaps_no hv]; simp
  · obtain ⟨fu, rfl⟩ : ∃ fu : Nat, fuel = fu := ⟨fuel.toNat, by have := (askB_of hv).2.2.2.1; omega⟩
    rw [ans_RecoverGaps_yes hv]
    have FF := factsB hv
    have hts := FF.ts
    unfold gapA; rw [List.length_map]; have := FF.bl.r; omega
end Go.Proofs.Ytobikkdnalnllaa
