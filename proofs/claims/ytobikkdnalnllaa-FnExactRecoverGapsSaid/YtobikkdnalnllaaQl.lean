/- OwnersOf, CallTree, SavedCalls by the program and by the reference. Conditions: lengths within bounds. -/
import Derived.Test.YtobikkdnalnllaaQk
import Derived.Test.YtobikkdnalnllaaYd
namespace Go.Proofs.Ytobikkdnalnllaa
open Go.RowKit SL
attribute [local go_sem] cell_blk frozen_blk lt_blk cell_at frozen_row lt_row
set_option linter.unusedVariables false
set_option linter.unusedSimpArgs false
theorem cCis_at {l : List Ci} {k : Nat} {x : Ci} (h : l[k]? = some x) : (cCis l)[k * 6]? = some (.int .i64 x.fn) ∧ (cCis l)[k * 6 + 1]? = some (.int .i64 x.up) ∧ (cCis l)[k * 6 + 2]? = some (.bool x.df) ∧ (cCis l)[k * 6 + 3]? = some (.int .i64 x.en) ∧ (cCis l)[k * 6 + 4]? = some (.int .i64 x.va) ∧ (cCis l)[k * 6 + 5]? = some (.int .i64 x.ar) :=
  ⟨flat_get (f := cCi) (k := 6) (fun _ => rfl) h 0 (by omega), flat_get (f := cCi) (k := 6) (fun _ => rfl) h 1 (by omega), flat_get (f := cCi) (k := 6) (fun _ => rfl) h 2 (by omega), flat_get (f := cCi) (k := 6) (fun _ => rfl) h 3 (by omega), flat_get (f := cCi) (k := 6) (fun _ => rfl) h 4 (by omega), flat_get (f := cCi) (k := 6) (fun _ => rfl) h 5 (by omega)⟩
def C5Ok (S : HP) (l : List C5) (ok : Bool) (w : World) (e : Ending) (w' : World) : Prop := ∃ A c, e = two (.slice A l.length c) (.bool ok) ∧ Post w (Row 85 5 (.slice A l.length c) l.length (cC5s l) * S) w'
theorem C5Ok.of {S : HP} {l : List C5} {ok : Bool} {w w' : World} {v : Value} (h : Post w (Row 85 5 v l.length (cC5s l) * S) w') : C5Ok S l ok w (two v (.bool ok)) w' := by
  obtain ⟨A, c, rfl, _⟩ := Row.form h.sep
  exact ⟨A, c, rfl, h⟩
theorem C5Ok.nil {S : HP} {ok : Bool} {w w' : World} {v : Value} (h : Post w (Row 85 5 v 0 [] * S) w') : C5Ok S [] ok w (two v (.bool ok)) w' := C5Ok.of (l := []) h
theorem own6 {R : Run} (F : Facts R) {i : Nat} {e : Ev} {o : Int} (h1 : R.m.trace[i]? = some e) (h2 : R.m.owners[i]? = some o) (hk : e.k = 6) : ∃ j : Nat, o = j ∧ j < R.m.calls.length := by
  have h3 : (R.m.trace.zip R.m.owners)[i]? = some (e, o) := by rw [List.getElem?_zip_eq_some]; exact ⟨h1, h2⟩
  have h4 : o ∈ (R.m.trace.zip R.m.owners).filterMap (fun x => if x.1.k = 6 then some x.2 else none) := List.mem_filterMap.2 ⟨(e, o), List.mem_of_getElem? h3, by simp [hk]⟩
  rw [← read5_eq, F.r5] at h4
  obtain ⟨r, hr, rfl⟩ := List.mem_map.1 h4
  obtain ⟨g1, ⟨c, hc, _⟩, _⟩ := F.rs.ok r hr
  exact ⟨r.ca.toNat, by omega, (List.getElem?_eq_some_iff.1 hc).1⟩
theorem upAt_get {cs : List C5} {j : Nat} {c : C5} (h : cs[j]? = some c) : upAt cs j = c.up := by unfold upAt; rw [Int.toNat_natCast, List.getD_eq_getElem?_getD, h]; rfl
set_option maxRecDepth 100000 in
set_option maxHeartbeats 8000000 in
theorem spec_CallTreeN (S : HP) (w : World) [H : SepI w S] (A : Option Addr) (c : Nat) (bs : List Bd) [r : Rd S A (cBds bs)] [B : Bodies S bs] (fn arg fuel : Int) (hv : askB (bs.map (·.l)) fn arg fuel = false) :
    Calls Try.prog 65 #[.agg #[.slice A bs.length c], .int .i64 fn, .int .i64 arg, .int .i64 fuel] w (C5Ok S [] false w) := by
  have hbn := B.n
  have HV := Hd.mk hv
  clear hv
  have hnot : ∀ (x : Bool) (w : World), (Op.unary .not (.bool x)).run Try.prog w = .ok (.bool (!x)) w := fun _ _ => rfl
  go_enter Try.func65, Try.ntmps65
  go_wp2_with fail
  refine (spec_l2Ask _ _ A c bs fn arg fuel _ HV.out).mono ?_
  rintro e w1 ⟨rfl, HP⟩
  have HS1 := HP.sep
  have HE1 := HP.ext
  clear HP
  go_wp2
  go_ret2
  exact C5Ok.nil (v := .slice (some ⟨w1.heap.size, 0, none⟩) 0 0) (Post.mk' (Ent.sep (S := _) inferInstance (Row.lit0 (size := 5) (SepI.i_alloc w1 (.cells #[] 85 (0, 0)) _ _))) inferInstance)
set_option maxRecDepth 100000 in
set_option maxHeartbeats 8000000 in
theorem spec_CallTreeV (S : HP) (w : World) [H : SepI w S] (A : Option Addr) (c : Nat) (bs : List Bd) [r : Rd S A (cBds bs)] [B : Bodies S bs] (hnn : NoneNil bs) (fn arg : Int) (fu : Nat) (L : List (List St)) (hbs : bs.map (·.l) = L) (hv : askB L fn arg fu = true) :
    Calls Try.prog 65 #[.agg #[.slice A bs.length c], .int .i64 fn, .int .i64 arg, .int .i64 fu] w (C5Ok S ((ranM L fn arg fu).m.calls.map c5) true w) := by
  have HNN := Hd.mk hnn
  have HV2 : Hd (askB (bs.map (·.l)) fn arg fu = true) := ⟨by rw [hbs]; exact hv⟩
  clear hnn
  have hbn := B.n
  have HV := Hd.mk hv
  have HB := Hd.mk hbs
  have HF := Hd.mk (factsB hv)
  clear hv hbs
  obtain ⟨R, hR⟩ : ∃ R, ranM L fn arg fu = R := ⟨_, rfl⟩
  have HR := Hd.mk hR
  rw [hR] at HF ⊢
  clear hR
  obtain ⟨C, hC⟩ : ∃ C, R.m.calls.map c5 = C := ⟨_, rfl⟩
  try rw [hC]
  have HC := Hd.mk hC
  clear hC
  have hnot : ∀ (x : Bool) (w : World), (Op.unary .not (.bool x)).run Try.prog w = .ok (.bool (!x)) w := fun _ _ => rfl
  go_enter Try.func65, Try.ntmps65
  go_wp2_with fail
  refine (spec_l2Ask _ _ A c bs fn arg fu _ HV2.out).mono ?_
  rintro e w1 ⟨rfl, HP⟩
  have HS1 := HP.sep
  have HE1 := HP.ext
  clear HP
  go_wp2_with fail
  refine (spec_runX _ _ A c bs HNN.out fn arg fu L HB.out HV.out).mono ?_
  rw [HR.out]
  rintro e w2 ⟨A2, c2, rfl, HP⟩
  have HS2 := HP.sep
  have HE2 := HP.ext
  clear HP
  try simp only []
  rename_i hK
  refine hK _ _ ?_
  clear hK
  refine ev_val rfl _ rfl ?_
  obtain ⟨now, hr3⟩ := HF.out.r3
  rw [HC.out] at hr3
  have HR3 := Hd.mk hr3
  clear hr3
  go_wp2_with fail
  refine (@spec_l3Read _ w2 HS2 A2 c2 R.m.trace inferInstance HF.out.ts _ _ now HR3.out).mono ?_
  rintro e w3 ⟨Ac, cc, Ao, oc, rfl, HP⟩
  have HS3 := HP.sep
  have HE3 := HP.ext
  clear HP
  try simp only []
  rename_i hK
  refine hK _ _ ?_
  clear hK
  refine ev_val rfl _ rfl ?_
  go_wp2
  go_ret2
  exact C5Ok.of (v := .slice Ac C.length cc) (Post.mk' (Ent.sep (S := _) inferInstance inferInstance) inferInstance)
def ok_CallTree (L : List (List St)) (fn arg fuel : Int) : Bool := askB L fn arg fuel
def ans_CallTree (L : List (List St)) (fn arg fuel : Int) : List C5 := if askB L fn arg fuel then (ranM L fn arg fuel.toNat).m.calls.map c5 else []
theorem ans_CallTree_yes {L : List (List St)} {fn arg : Int} {fu : Nat} (h : askB L fn arg fu = true) : ans_CallTree L fn arg fu = (ranM L fn arg fu).m.calls.map c5 := by unfold ans_CallTree; rw [if_pos h]; rfl
theorem ans_CallTree_no {L : List (List St)} {fn arg fuel : Int} (h : askB L fn arg fuel = false) : ans_CallTree L fn arg fuel = [] := by unfold ans_CallTree; rw [h]; rfl
theorem spec_CallTreeA (S : HP) (w : World) [H : SepI w S] (A : Option Addr) (c : Nat) (bs : List Bd) [r : Rd S A (cBds bs)] [B : Bodies S bs] (hnn : NoneNil bs) (fn arg fuel : Int) :
    Calls Try.prog 65 #[.agg #[.slice A bs.length c], .int .i64 fn, .int .i64 arg, .int .i64 fuel] w (C5Ok S (ans_CallTree (bs.map (·.l)) fn arg fuel) (ok_CallTree (bs.map (·.l)) fn arg fuel) w) := by
  obtain ⟨v, hv⟩ : ∃ v, askB (bs.map (·.l)) fn arg fuel = v := ⟨_, rfl⟩
  have e : ok_CallTree (bs.map (·.l)) fn arg fuel = v := hv
  rw [e]
  cases v
  · rw [ans_CallTree_no hv]; exact spec_CallTreeN S w A c bs fn arg fuel hv
  · obtain ⟨fu, rfl⟩ : ∃ fu : Nat, fuel = fu := ⟨fuel.toNat, by have := (askB_of hv).2.2.2.1; omega⟩
    rw [ans_CallTree_yes hv]; exact spec_CallTreeV S w A c bs hnn fn arg fu _ rfl hv
theorem cRcs_at {l : List Rc} {k : Nat} {x : Rc} (h : l[k]? = some x) : (cRcs l)[k * 3]? = some (.int .i64 x.ca) ∧ (cRcs l)[k * 3 + 1]? = some (.int .i64 x.sa) ∧ (cRcs l)[k * 3 + 2]? = some (.int .i64 x.pa) :=
  ⟨flat_get (f := cRc) (k := 3) (fun _ => rfl) h 0 (by omega), flat_get (f := cRc) (k := 3) (fun _ => rfl) h 1 (by omega), flat_get (f := cRc) (k := 3) (fun _ => rfl) h 2 (by omega)⟩
theorem MachRC.move (gm : Nat) (A : Option Addr) (n c : Nat) (fuel : Int) (m : Ma) (k v : Int) (x : MVs) (F G : HP) : MachRC gm A n c fuel m k v x (F * G) = F * MachRC gm A n c fuel m k v x G := by
  unfold MachRC
  ac_rfl
def OfRc (S : HP) (A : Option Addr) (n c : Nat) (fuel : Int) (R : Run) (g : Nat) (lb : Array Value) (I : Nat → HP) (val : Nat → Int) : Prop :=
  ∀ (gm : Nat) (x : MVs) (S0 : HP), MRd S0 S gm A n c fuel R x → x.ps.map (·.p) = R.m.panics → ∀ (k : Nat) (q : Rc), R.m.recs[k]? = some q → ∀ (X : HP) (W : World), SepI W (X * (I k * S0)) →
    Calls Try.prog g (#[.pointer (some ⟨gm, 0, none⟩), .agg #[.int .i64 q.ca, .int .i64 q.sa, .int .i64 q.pa]] ++ lb) W fun e w' => e = .returned (.int .i64 (val k)) ∧ Post W (X * (I (k + 1) * S0)) w'
set_option maxRecDepth 100000 in
set_option maxHeartbeats 8000000 in
theorem impl_ofRecoveriesN (S : HP) (w : World) [H : SepI w S] (A : Option Addr) (c : Nat) (bs : List Bd) [r : Rd S A (cBds bs)] [B : Bodies S bs] (fn arg fuel : Int) (g : Nat) (lb : Array Value) (hv : askB (bs.map (·.l)) fn arg fuel = false) :
    Calls Try.prog 68 #[.agg #[.slice A bs.length c], .int .i64 fn, .int .i64 arg, .int .i64 fuel, .func (.func g) #[] lb] w (IntsOk S [] false w) := by
  have hbn := B.n
  have HV := Hd.mk hv
  clear hv
  have hnot : ∀ (x : Bool) (w : World), (Op.unary .not (.bool x)).run Try.prog w = .ok (.bool (!x)) w := fun _ _ => rfl
  go_enter Try.func68, Try.ntmps68
  go_wp2_with fail
  refine (impl_ranN _ _ A c bs fn arg fuel HV.out).mono ?_
  rintro e w1 ⟨rfl, HP⟩
  have HS1 := HP.sep
  have HE1 := HP.ext
  clear HP
  go_wp2
  go_ret2
  exact IntsOk.nil (v := .slice none 0 0) (Post.mk' (Ent.sep (S := _) inferInstance (Row.nil0 HS1 3 1)) inferInstance)
set_option maxRecDepth 100000 in
set_option maxHeartbeats 8000000 in
theorem impl_ofRecoveriesV (S : HP) (I : Nat → HP) (w : World) [H : SepI w (I 0 * S)] (A : Option Addr) (c : Nat) (bs : List Bd) [r : Rd (I 0 * S) A (cBds bs)] [B : Bodies (I 0 * S) bs] (g : Nat) (lb : Array Value) (val : Nat → Int) (eg : Enters g) (fn arg : Int) (fu : Nat) (L : List (List St)) (hbs : bs.map (·.l) = L) (hv : askB L fn arg fu = true)
    (hof : ∀ X, OfRc (X * S) A bs.length c fu (ranM L fn arg fu) g lb I val) :
    Calls Try.prog 68 #[.agg #[.slice A bs.length c], .int .i64 fn, .int .i64 arg, .int .i64 fu, .func (.func g) #[] lb] w (IntsOk (I (ranM L fn arg fu).m.recs.length * S) ((List.range (ranM L fn arg fu).m.recs.length).map val) true w) := by
  have HOF := Hd.mk hof
  clear hof
  have hbn := B.n
  have HV := Hd.mk hv
  have HB := Hd.mk hbs
  have HF := Hd.mk (factsB hv)
  clear hv hbs
  obtain ⟨R, hR⟩ : ∃ R, ranM L fn arg fu = R := ⟨_, rfl⟩
  have HR := Hd.mk hR
  rw [hR] at HF HOF ⊢
  clear hR
  obtain ⟨m, hm⟩ : ∃ m, m = R.m.recs.length := ⟨_, rfl⟩
  have HM := Hd.mk hm
  obtain ⟨O, hO⟩ : ∃ O : Nat → List Int, O = fun i => (List.range i).map val := ⟨_, rfl⟩
  have HO0 : Hd (O 0 = []) := ⟨by rw [hO]; rfl⟩
  have HOM : Hd (O m = (List.range R.m.recs.length).map val) := ⟨by rw [hO, hm]⟩
  have HOY : Hd (∀ i : Nat, O (i + 1) = O i ++ [val i]) := ⟨fun i => by rw [hO]; simp only; rw [List.range_succ, List.map_append]; rfl⟩
  have HOL : Hd (∀ i : Nat, (O i).length = i) := ⟨fun i => by rw [hO]; simp⟩
  have hml : m ≤ 1000 := by have h1 := HF.out.bl.r; have h2 := HF.out.ts; omega
  rw [← HOM.out, ← hm]
  clear hO
  have hnot : ∀ (x : Bool) (w : World), (Op.unary .not (.bool x)).run Try.prog w = .ok (.bool (!x)) w := fun _ _ => rfl
  unfold Enters at eg
  obtain ⟨be, hbe⟩ : ∃ be, be = w.heap.size := ⟨_, rfl⟩
  have HBE := Hd.mk hbe
  go_enter Try.func68, Try.ntmps68
  go_wp2_with fail
  refine (impl_ranA _ _ A c bs fn arg fu L HB.out HV.out).mono ?_
  rw [HR.out]
  rintro e w1 ⟨gm, x, rfl, hps, HP⟩
  have HPS := Hd.mk hps
  clear hps
  have HS1 := HP.sep
  have HE1 := HP.ext
  clear HP
  rw [← hbe] at HS1
  have HS1a := SepI.cast HS1 (show _ = I 0 * MachRC gm A bs.length c fu R.m R.kind R.val x (pts be (.cells #[.slice A bs.length c] 31 (0, 0)) * S) by rw [star_left, MachRC.move])
  clear HS1 hbe
  have HCL := HOF.out (pts be (.cells #[.slice A bs.length c] 31 (0, 0))) gm x _ (MachRC.rd gm A bs.length c fu R x _) HPS.out
  have M := MachRC.rd gm A bs.length c fu R x (pts be (.cells #[.slice A bs.length c] 31 (0, 0)) * S)
  generalize MachRC gm A bs.length c fu R.m R.kind R.val x (pts be (.cells #[.slice A bs.length c] 31 (0, 0)) * S) = S0 at HS1a HCL M
  have HC := Hd.mk HCL
  clear HCL
  obtain ⟨A1, c1, A2, c2, A3, c3, A4, c4, A5, c5, bm, ps⟩ := x
  have i1 := M.blk
  have rR := M.rc
  dsimp only at i1 rR
  have HM1 := Hd.mk M
  clear M
  rw [← hm] at i1
  clear hm
  obtain ⟨bf, hbf⟩ : ∃ bf, bf = w1.heap.size := ⟨_, rfl⟩
  have hlit : SepI (w1.alloc (.cells #[] 3 (0, 0))) (Row 3 1 (.slice (some ⟨w1.heap.size, 0, none⟩) 0 0) 0 [] * (I 0 * S0)) := Row.lit0 (SepI.i_alloc w1 (.cells #[] 3 (0, 0)) (I 0 * S0) _)
  have HBF := Hd.mk hbf
  clear hbf
  go_wp2
  rw [← HBF.out] at hlit ⊢
  go_loopw [14, 33] (fun v3 v4 wr => ∃ (i : Nat) (vv : Value), i ≤ m ∧ v4 = .int .i64 i ∧ v3 = vv ∧ ExtI w wr ∧ SepI wr (Row 3 1 vv (O i).length (ints (O i)) * (I i * S0))) (fun _ v _ => m - (intOf v).toNat)
  case atStart => exact ⟨0, .slice (some ⟨bf, 0, none⟩) 0 0, Nat.zero_le _, rfl, rfl, inferInstance, SepI.cast hlit (by rw [HO0.out]; rfl)⟩
  case round =>
    obtain ⟨i, vv, hi, rfl, rfl, HX, HS3⟩ := hrel
    clear hlit
    by_cases hlt : i < m
    · obtain ⟨q, hs1⟩ := get_ex (xs := R.m.recs) (k := i) (by rw [← HM.out]; exact hlt)
      obtain ⟨bp, op, rfl⟩ := rR.addr HS1a.right (j := i) (by rw [cRcs_len, ← HM.out]; omega)
      have e1 := rR.cell (cRcs_at hs1).1
      have e2 := rR.cell (cRcs_at hs1).2.1
      have e3 := rR.cell (cRcs_at hs1).2.2
      obtain ⟨A0, c0, rfl, hc0, hc1⟩ := Row.form HS3
      have HCQ := Hd.mk (HC.out i q hs1)
      have hol : (O i).length ≤ 1000 := by rw [HOL.out i]; omega
      have HOO : Hd (ints (O i) ++ #[.int .i64 (val i)].toList = ints (O (i + 1))) := ⟨by rw [HOY.out i, ints_append]; rfl⟩
      have HLL : Hd ((O i).length + 1 = (O (i + 1)).length) := ⟨by rw [HOY.out i]; simp⟩
      clear hs1
      have hcall : ∀ W, SepI W (pts wr.heap.size (.cells #[.int .i64 q.ca, .int .i64 q.sa, .int .i64 q.pa] 90 (0, 0)) * (Row 3 1 (.slice A0 (O i).length c0) (O i).length (ints (O i)) * (I i * S0))) → Calls Try.prog g (#[.pointer (some ⟨gm, 0, none⟩), .agg #[.int .i64 q.ca, .int .i64 q.sa, .int .i64 q.pa]] ++ lb) W fun e w' => e = .returned (.int .i64 (val i)) ∧ Post W (pts wr.heap.size (.cells #[.int .i64 q.ca, .int .i64 q.sa, .int .i64 q.pa] 90 (0, 0)) * (Row 3 1 (.slice A0 (O i).length c0) (O i).length (ints (O i)) * (I (i + 1) * S0))) w' := fun W HW => (HCQ.out (pts wr.heap.size (.cells #[.int .i64 q.ca, .int .i64 q.sa, .int .i64 q.pa] 90 (0, 0)) * Row 3 1 (.slice A0 (O i).length c0) (O i).length (ints (O i))) W (SepI.cast HW (star_assoc _ _ _).symm)).mono (fun e w' h => ⟨h.1, ⟨SepI.cast h.2.sep (star_assoc _ _ _), h.2.ext⟩⟩)
      have HCC := Hd.mk hcall
      clear hcall
      go_wp2_with (first | ((with_reducible refine (HCC.out _ inferInstance).mono ?_); rintro e w3 ⟨rfl, HP'⟩; have HS5 := HP'.sep; have HE5 := HP'.ext; clear HP') | (at_builtin; go_must (refine ev_append (v := .slice A0 (O i).length c0) rfl _ _ 26 rfl rfl 8 _ Try.underlying26 info_int rfl (by decide) (by decide) (w3.heap.size) 1 1 rfl rfl (by simp [Value.oneCell']) (by omega) ?_); intro v1 w4 HS4 HE4; replace HS4 := Row.as HS4 HLL.out HOO.out))
      go_roundw
      case rel => exact ⟨i + 1, v1, by omega, by go_num, rfl, inferInstance, Ent.sep (S := _) (T := Row 3 1 v1 (O (i + 1)).length (ints (O (i + 1))) * (I (i + 1) * S0)) inferInstance HS4⟩
      case measure => (simp [intOf]; try omega)
    · have : i = m := by omega
      subst this
      obtain ⟨A0, c0, rfl, hc0, hc1⟩ := Row.form HS3
      go_wp2
      go_ret2
      refine IntsOk.of (v := .slice A0 (O i).length c0) (Post.mk' ?_ inferInstance)
      have h1 : SepI wr ((Row 3 1 (.slice A0 (O i).length c0) (O i).length (ints (O i)) * I i) * S0) := SepI.cast HS3 (star_assoc _ _ _).symm
      have h2 := HM1.out.out h1
      exact Ent.sep (S := _) inferInstance (SepI.cast h2 (star_assoc (Row 3 1 (.slice A0 (O i).length c0) (O i).length (ints (O i))) (I i) (pts be (.cells #[.slice A bs.length c] 31 (0, 0)) * S)))
theorem map_range_get (l : List Rc) (f : Rc → Int) (z : Rc) : (List.range l.length).map (fun k => f (l.getD k z)) = l.map f := by
  apply List.ext_getElem?
  intro i
  rw [List.getElem?_map, List.getElem?_map]
  by_cases h : i < l.length
  · rw [List.getElem?_range h, Option.map_some, List.getD_eq_getElem?_getD, List.getElem?_eq_getElem h]; rfl
  · rw [List.getElem?_eq_none (by simpa using h), List.getElem?_eq_none (by omega)]; rfl
theorem zip_get {α β : Type} {l : List α} {m : List β} {i : Nat} {a : α} {b : β} (h1 : l[i]? = some a) (h2 : m[i]? = some b) : (l.zip m)[i]? = some (a, b) := by rw [List.getElem?_zip_eq_some]; exact ⟨h1, h2⟩
theorem zip_take_all {α β : Type} {l : List α} {m : List β} (h : m.length = l.length) : (l.zip m).take l.length = l.zip m := by rw [List.take_of_length_le (by rw [List.length_zip]; omega)]
set_option maxRecDepth 100000 in
set_option maxHeartbeats 8000000 in
theorem spec_l5Saved (S : HP) (w : World) [H : SepI w S] (A : Option Addr) (c : Nat) (t : List Ev) [r : Rd S A (cEvs t)] (ht : t.length ≤ 1000) (cs : List C5) (os : List Int) (now : Int) (hr3 : read3 t = some ⟨cs, os, now⟩) (hol : os.length = t.length) (hcl : cs.length ≤ 1000)
    (hown : ∀ (i : Nat) (e : Ev) (o : Int), t[i]? = some e → os[i]? = some o → e.k = 6 → ∃ j : Nat, o = j ∧ j < cs.length) :
    Calls Try.prog 66 #[.slice A t.length c] w (IntsPost S (savA t os cs) w) := by
  obtain ⟨m, hm⟩ : ∃ m, m = t.length := ⟨_, rfl⟩
  have HM := Hd.mk hm
  have HMO : Hd (os.length = m) := ⟨by rw [hol, hm]⟩
  have HR3 := Hd.mk hr3
  have HOW := Hd.mk hown
  obtain ⟨O, hO⟩ : ∃ O : Nat → List Int, O = fun i => ((t.zip os).take i).filterMap (savF cs) := ⟨_, rfl⟩
  have HO0 : Hd (O 0 = []) := ⟨by rw [hO]; rfl⟩
  have HOM : Hd (O m = savA t os cs) := ⟨by rw [hO, hm]; simp only; rw [zip_take_all hol]; rfl⟩
  have HOY : Hd (∀ (i : Nat) (e : Ev) (j : Nat) (x : C5), t[i]? = some e → os[i]? = some (j : Int) → cs[j]? = some x → (e.k == 6) = true → O (i + 1) = O i ++ [x.up]) := ⟨fun i e j x h1 h2 h3 hk => by
    rw [hO]; exact fm_yes (zip_get h1 h2) (by unfold savF; simp only; rw [if_pos (by simpa using hk), upAt_get h3])⟩
  have HON : Hd (∀ (i : Nat) (e : Ev) (p : Int), t[i]? = some e → os[i]? = some p → (e.k == 6) = false → O (i + 1) = O i) := ⟨fun i e p h1 h2 hk => by
    rw [hO]; exact fm_no (zip_get h1 h2) (by unfold savF; simp only; rw [if_neg (by simpa using hk)])⟩
  have HOL : Hd (∀ i : Nat, (O i).length ≤ 1000) := ⟨fun i => by
    rw [hO]
    have h1 := fm_len (savF cs) (t.zip os) i
    have h2 : (t.zip os).length ≤ t.length := by rw [List.length_zip]; omega
    simp only
    omega⟩
  rw [← HOM.out, ← hm]
  rw [← hm] at ht
  clear hm hO hr3 hown hol
  obtain ⟨be, hbe⟩ : ∃ be, be = w.heap.size := ⟨_, rfl⟩
  have hlit : SepI (w.alloc (.cells #[] 3 (0, 0))) (Row 3 1 (.slice (some ⟨w.heap.size, 0, none⟩) 0 0) 0 [] * S) := Row.lit0 (SepI.i_alloc w (.cells #[] 3 (0, 0)) S _)
  have HBE := Hd.mk hbe
  go_enter Try.func66, Try.ntmps66
  go_wp2_with fail
  have hC := @spec_l3Read _ _ hlit A c t inferInstance (by rw [← HM.out]; exact ht) cs os now HR3.out
  rw [← HM.out] at hC
  refine hC.mono ?_
  clear hC
  rintro e w1 ⟨Ac, cc, Ao, oc, rfl, HP⟩
  rw [HMO.out] at HP ⊢
  rw [← hbe] at HP
  have HS1 := HP.sep
  have HE1 := HP.ext
  clear HP hlit hbe
  obtain ⟨bt, hbt⟩ : ∃ bt, bt = w1.heap.size := ⟨_, rfl⟩
  have HBT := Hd.mk hbt
  clear hbt
  go_wp2
  try rw [← HBT.out]
  try rw [← HBE.out]
  go_loopw [3, 5] (fun v3 v4 wr => ∃ (i : Nat) (vv : Value), i ≤ m ∧ v4 = .int .i64 i ∧ v3 = vv ∧ ExtI w wr ∧ SepI wr (Row 3 1 vv (O i).length (ints (O i)) * (pts bt (.cells #[.slice Ac cs.length cc, .slice Ao m oc] 71 (0, 0)) * (Row 85 5 (.slice Ac cs.length cc) cs.length (cC5s cs) * (Row 3 1 (.slice Ao m oc) m (ints os) * S))))) (fun _ v _ => m - (intOf v).toNat)
  case atStart => exact ⟨0, .slice (some ⟨be, 0, none⟩) 0 0, Nat.zero_le _, rfl, rfl, inferInstance, SepI.cast (Ent.sep (S := _) (T := Row 3 1 (.slice (some ⟨be, 0, none⟩) 0 0) 0 [] * (pts w1.heap.size (.cells #[.slice Ac cs.length cc, .slice Ao m oc] 71 (0, 0)) * (Row 85 5 (.slice Ac cs.length cc) cs.length (cC5s cs) * (Row 3 1 (.slice Ao m oc) m (ints os) * S)))) inferInstance inferInstance) (by rw [HO0.out, HBT.out]; rfl)⟩
  case round =>
    obtain ⟨i, vv, hi, rfl, rfl, HX, HS3⟩ := hrel
    by_cases hlt : i < m
    · obtain ⟨ev, hs1⟩ := get_ex (xs := t) (k := i) (by rw [← HM.out]; exact hlt)
      obtain ⟨ow, hs2⟩ := get_ex (xs := os) (k := i) (by rw [HMO.out]; exact hlt)
      obtain ⟨bp, op, rfl⟩ := r.addr H (j := i) (by rw [cEvs_len, ← HM.out]; omega)
      have e1 := r.cell (cEvs_get hs1).1
      have e2 := r.cell (cEvs_get hs1).2.1
      have e3 := r.cell (cEvs_get hs1).2.2
      obtain ⟨A0, c0, rfl, hc0, hc1⟩ := Row.form HS3
      obtain ⟨q, hq⟩ : ∃ q, (ev.k == 6) = q := ⟨_, rfl⟩
      have HQ := Hd.mk hq
      have hol := HOL.out i
      cases q
      · have HNX := Hd.mk (HON.out i ev ow hs1 hs2 HQ.out)
        clear hs1 hs2
        go_wp2
        go_roundw
        case rel => exact ⟨i + 1, .slice A0 (O i).length c0, by omega, by go_num, rfl, inferInstance, SepI.cast (Ent.sep (S := _) (T := Row 3 1 (.slice A0 (O i).length c0) (O i).length (ints (O i)) * (pts bt (.cells #[.slice Ac cs.length cc, .slice Ao m oc] 71 (0, 0)) * (Row 85 5 (.slice Ac cs.length cc) cs.length (cC5s cs) * (Row 3 1 (.slice Ao m oc) m (ints os) * S)))) inferInstance HS3) (by rw [HNX.out])⟩
        case measure => (simp [intOf]; try omega)
      · obtain ⟨j, rfl, hj⟩ := HOW.out i ev ow hs1 hs2 (by simpa using HQ.out)
        obtain ⟨x, hx⟩ := get_ex hj
        have HNX := HOY.out i ev j x hs1 hs2 hx HQ.out
        have HOO : Hd (ints (O i) ++ #[.int .i64 x.up].toList = ints (O (i + 1))) := ⟨by rw [HNX, ints_append]; rfl⟩
        have HLL : Hd ((O i).length + 1 = (O (i + 1)).length) := ⟨by rw [HNX]; simp⟩
        clear HNX
        obtain ⟨gc, rfl⟩ := Row.addr HS3.right.right (by omega)
        obtain ⟨go, rfl⟩ := Row.addr HS3.right.right.right (by omega)
        have d1 : ∀ F, CellAt (Row 3 1 (.slice (some ⟨go, 0, none⟩) m oc) m (ints os) * F) go i (.int .i64 (j : Int)) := fun F => Row.cellAt (ints_get hs2)
        have d2 : ∀ F, CellAt (Row 85 5 (.slice (some ⟨gc, 0, none⟩) cs.length cc) cs.length (cC5s cs) * F) gc (j * 5 + 1) (.int .i64 x.up) := fun F => Row.cellAt (cC5s_get hx).2.1
        clear hs1 hs2 hx
        go_wp2
        refine wp_region_W 12 14 (by kernel_rfl) (by kernel_rfl) (fun w' => w'.cell? ⟨bt, 0, none⟩ = some (.slice (some ⟨gc, 0, none⟩) cs.length cc) ∧ w'.cell? ⟨bt, 1, none⟩ = some (.slice (some ⟨go, 0, none⟩) m oc) ∧ w'.cell? ⟨go, i, none⟩ = some (.int .i64 (j : Int)) ∧ w'.cell? ⟨gc, j * 5 + 1, none⟩ = some (.int .i64 x.up)) ⟨cb, cb, cell_at _ _ _ _ _, cell_at _ _ _ _ _⟩ (fun hHeld => ?_)
        refine tkp 0 hHeld ?_
        refine tkp 1 hHeld ?_
        refine tkl 2 hHeld ?_
        refine tkp 3 hHeld ?_
        refine tkl 4 hHeld ?_
        refine tkp 5 hHeld ?_
        refine tkp 6 hHeld ?_
        refine tkl 7 hHeld ?_
        refine tkp 8 hHeld ?_
        refine tkp 9 hHeld ?_
        refine tkl 10 hHeld ?_
        refine wpAnyW_one false (i := 11) (by kernel_rfl) rfl (by kernel_rfl) (by rfl) (fun KK hKK => ?_)
        refine st_list rfl ?_
        go_wp2
        refine ⟨rfl, ?_⟩
        refine hKK.out _ _ (.inr ⟨cb, cb, cell_at _ _ _ _ _, cell_at _ _ _ _ _⟩) (fun hHeld => ?_)
        clear hKK KK
        try simp only [Act.put, List.setIfInBounds_toArray, List.set_cons_zero, List.set_cons_succ]
        refine wpAnyW_done (by kernel_rfl) ?_
        refine ev_append (v := .slice A0 (O i).length c0) rfl _ _ 26 rfl rfl 8 _ Try.underlying26 info_int rfl (by decide) (by decide) (wr.heap.size) 1 1 rfl rfl (by simp [Value.oneCell']) (by omega) ?_
        intro v1 w4 HS4 HE4
        replace HS4 := Row.as HS4 HLL.out HOO.out
        go_wp2
        go_roundw
        case rel => exact ⟨i + 1, v1, by omega, by go_num, rfl, inferInstance, Ent.sep (S := _) (T := Row 3 1 v1 (O (i + 1)).length (ints (O (i + 1))) * (pts bt (.cells #[.slice (some ⟨gc, 0, none⟩) cs.length cc, .slice (some ⟨go, 0, none⟩) m oc] 71 (0, 0)) * (Row 85 5 (.slice (some ⟨gc, 0, none⟩) cs.length cc) cs.length (cC5s cs) * (Row 3 1 (.slice (some ⟨go, 0, none⟩) m oc) m (ints os) * S)))) inferInstance HS4⟩
        case measure => (simp [intOf]; try omega)
    · have : i = m := by omega
      subst this
      obtain ⟨A0, c0, rfl, hc0, hc1⟩ := Row.form HS3
      go_wp2
      go_ret
      exact IntsPost.of (v := .slice A0 (O i).length c0) (Post.mk' (Ent.sep (S := _) inferInstance inferInstance) inferInstance)
end Go.Proofs.Ytobikkdnalnllaa
