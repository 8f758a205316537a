/- What is told of recoveries: ofRecoveries by a closure's contract; SavedCalls. Conditions: lengths within bounds. -/
import Derived.Test.YthnaoedlnificaaYe
namespace Go.Proofs.Ythnaoedlnificaa
open Go.RowKit SL
attribute [local go_sem] cell_blk frozen_blk lt_blk cell_at frozen_row lt_row
set_option linter.unusedVariables false
set_option linter.unusedSimpArgs false

theorem cRcs_at {l : List Rc} {k : Nat} {x : Rc} (h : l[k]? = some x) : (cRcs l)[k * 3]? = some (.int .i64 x.ca) ∧ (cRcs l)[k * 3 + 1]? = some (.int .i64 x.sa) ∧ (cRcs l)[k * 3 + 2]? = some (.int .i64 x.pa) :=
  ⟨flat_get (f := cRc) (k := 3) (fun _ => rfl) h 0 (by omega), flat_get (f := cRc) (k := 3) (fun _ => rfl) h 1 (by omega), flat_get (f := cRc) (k := 3) (fun _ => rfl) h 2 (by omega)⟩
theorem MachRC.move (gm : Nat) (A : Option Addr) (n c : Nat) (fuel : Int) (m : Ma) (k v : Int) (x : MVs) (F G : HP) : MachRC gm A n c fuel m k v x (F * G) = F * MachRC gm A n c fuel m k v x G := by
  unfold MachRC
  ac_rfl
/-- What a closure is asked that tells something of each recovery; I: its own memory. -/
def OfRc (S : HP) (A : Option Addr) (n c : Nat) (fuel : Int) (R : Run) (g : Nat) (lb : Array Value) (I : Nat → HP) (val : Nat → Int) : Prop :=
  ∀ (gm : Nat) (x : MVs) (S0 : HP), MRd S0 S gm A n c fuel R x → x.ps.map (·.p) = R.m.panics → ∀ (k : Nat) (q : Rc), R.m.recs[k]? = some q → ∀ (X : HP) (W : World), SepI W (X * (I k * S0)) →
    Calls Try.prog g (#[.pointer (some ⟨gm, 0, none⟩), .agg #[.int .i64 q.ca, .int .i64 q.sa, .int .i64 q.pa]] ++ lb) W fun e w' => e = .returned (.int .i64 (val k)) ∧ Post W (X * (I (k + 1) * S0)) w'
set_option maxRecDepth 100000 in
set_option maxHeartbeats 8000000 in
theorem impl_ofRecoveriesN (S : HP) (w : World) [H : SepI w S] (A : Option Addr) (c : Nat) (bs : List Bd) [r : Rd S A (cBds bs)] [B : Bodies S bs] (fn arg fuel : Int) (g : Nat) (lb : Array Value) (hv : askB (bs.map (·.l)) fn arg fuel = false) :
    Calls Try.prog 81 #[.agg #[.slice A bs.length c], .int .i64 fn, .int .i64 arg, .int .i64 fuel, .func (.func g) #[] lb] w (IntsOk S [] false w) := by
  have hbn := B.n
  have HV := Hd.mk hv
  clear hv
  have hnot : ∀ (x : Bool) (w : World), (Op.unary .not (.bool x)).run Try.prog w = .ok (.bool (!x)) w := fun _ _ => rfl
  go_enter Try.func81, Try.ntmps81
  go_wp2_with fail
  refine (impl_ranN _ _ A c bs fn arg fuel HV.out).mono ?_
  rintro e w1 ⟨rfl, HP⟩
  have HS1 := HP.sep
  have HE1 := HP.ext
  clear HP
  go_wp2
  go_ret2
  exact IntsOk.nil (v := .slice none 0 0) (Post.mk' (Ent.sep (S := _) inferInstance (Row.nil0 HS1 3 1)) inferInstance)
set_option maxRecDepth 100000 in
set_option maxHeartbeats 8000000 in
theorem impl_ofRecoveriesV (S : HP) (I : Nat → HP) (w : World) [H : SepI w (I 0 * S)] (A : Option Addr) (c : Nat) (bs : List Bd) [r : Rd (I 0 * S) A (cBds bs)] [B : Bodies (I 0 * S) bs] (g : Nat) (lb : Array Value) (val : Nat → Int) (eg : Enters g) (fn arg : Int) (fu : Nat) (L : List (List St)) (hbs : bs.map (·.l) = L) (hv : askB L fn arg fu = true)
    (hof : ∀ X, OfRc (X * S) A bs.length c fu (ranM L fn arg fu) g lb I val) :
    Calls Try.prog 81 #[.agg #[.slice A bs.length c], .int .i64 fn, .int .i64 arg, .int .i64 fu, .func (.func g) #[] lb] w (IntsOk (I (ranM L fn arg fu).m.recs.length * S) ((List.range (ranM L fn arg fu).m.recs.length).map val) true w) := by
  have HOF := Hd.mk hof
  clear hof
  have hbn := B.n
  have HV := Hd.mk hv
  have HB := Hd.mk hbs
  have HF := Hd.mk (factsB hv)
  clear hv hbs
  obtain ⟨R, hR⟩ : ∃ R, ranM L fn arg fu = R := ⟨_, rfl⟩
  have HR := Hd.mk hR
  rw [hR] at HF HOF ⊢
  clear hR
  obtain ⟨m, hm⟩ : ∃ m, m = R.m.recs.length := ⟨_, rfl⟩
  have HM := Hd.mk hm
  obtain ⟨O, hO⟩ : ∃ O : Nat → List Int, O = fun i => (List.range i).map val := ⟨_, rfl⟩
  have HO0 : Hd (O 0 = []) := ⟨by rw [hO]; rfl⟩
  have HOM : Hd (O m = (List.range R.m.recs.length).map val) := ⟨by rw [hO, hm]⟩
  have HOY : Hd (∀ i : Nat, O (i + 1) = O i ++ [val i]) := ⟨fun i => by rw [hO]; simp only; rw [List.range_succ, List.map_append]; rfl⟩
  have HOL : Hd (∀ i : Nat, (O i).length = i) := ⟨fun i => by rw [hO]; simp⟩
  have hml : m ≤ 1000 := by have h1 := HF.out.bl.r; have h2 := HF.out.ts; omega
  rw [← HOM.out, ← hm]
  clear hO
  have hnot : ∀ (x : Bool) (w : World), (Op.unary .not (.bool x)).run Try.prog w = .ok (.bool (!x)) w := fun _ _ => rfl
  unfold Enters at eg
  obtain ⟨be, hbe⟩ : ∃ be, be = w.heap.size := ⟨_, rfl⟩
  have HBE := Hd.mk hbe
  go_enter Try.func81, Try.ntmps81
  go_wp2_with fail
  refine (impl_ranA _ _ A c bs fn arg fu L HB.out HV.out).mono ?_
  rw [HR.out]
  rintro e w1 ⟨gm, x, rfl, hps, HP⟩
  have HPS := Hd.mk hps
  clear hps
  have HS1 := HP.sep
  have HE1 := HP.ext
  clear HP
  rw [← hbe] at HS1
  have HS1a := SepI.cast HS1 (show _ = I 0 * MachRC gm A bs.length c fu R.m R.kind R.val x (pts be (.cells #[.slice A bs.length c] 33 (0, 0)) * S) by rw [star_left, MachRC.move])
  clear HS1 hbe
  have HCL := HOF.out (pts be (.cells #[.slice A bs.length c] 33 (0, 0))) gm x _ (MachRC.rd gm A bs.length c fu R x _) HPS.out
  have M := MachRC.rd gm A bs.length c fu R x (pts be (.cells #[.slice A bs.length c] 33 (0, 0)) * S)
  generalize MachRC gm A bs.length c fu R.m R.kind R.val x (pts be (.cells #[.slice A bs.length c] 33 (0, 0)) * S) = S0 at HS1a HCL M
  have HC := Hd.mk HCL
  clear HCL
  obtain ⟨A1, c1, A2, c2, A3, c3, A4, c4, A5, c5, bm, ps⟩ := x
  have i1 := M.blk
  have rR := M.rc
  dsimp only at i1 rR
  have HM1 := Hd.mk M
  clear M
  rw [← hm] at i1
  clear hm
  obtain ⟨bf, hbf⟩ : ∃ bf, bf = w1.heap.size := ⟨_, rfl⟩
  have hlit : SepI (w1.alloc (.cells #[] 3 (0, 0))) (Row 3 1 (.slice (some ⟨w1.heap.size, 0, none⟩) 0 0) 0 [] * (I 0 * S0)) := Row.lit0 (SepI.i_alloc w1 (.cells #[] 3 (0, 0)) (I 0 * S0) _)
  have HBF := Hd.mk hbf
  clear hbf
  go_wp2
  rw [← HBF.out] at hlit ⊢
  go_loopw [14, 33] (fun v3 v4 wr => ∃ (i : Nat) (vv : Value), i ≤ m ∧ v4 = .int .i64 i ∧ v3 = vv ∧ ExtI w wr ∧ SepI wr (Row 3 1 vv (O i).length (ints (O i)) * (I i * S0))) (fun _ v _ => m - (intOf v).toNat)
  case atStart => exact ⟨0, .slice (some ⟨bf, 0, none⟩) 0 0, Nat.zero_le _, rfl, rfl, inferInstance, SepI.cast hlit (by rw [HO0.out]; rfl)⟩
  case round =>
    obtain ⟨i, vv, hi, rfl, rfl, HX, HS3⟩ := hrel
    clear hlit
    by_cases hlt : i < m
    · obtain ⟨q, hs1⟩ := get_ex (xs := R.m.recs) (k := i) (by rw [← HM.out]; exact hlt)
      obtain ⟨bp, op, rfl⟩ := rR.addr HS1a.right (j := i) (by rw [cRcs_len, ← HM.out]; omega)
      have e1 := rR.cell (cRcs_at hs1).1
      have e2 := rR.cell (cRcs_at hs1).2.1
      have e3 := rR.cell (cRcs_at hs1).2.2
      obtain ⟨A0, c0, rfl, hc0, hc1⟩ := Row.form HS3
      have HCQ := Hd.mk (HC.out i q hs1)
      have hol : (O i).length ≤ 1000 := by rw [HOL.out i]; omega
      have HOO : Hd (ints (O i) ++ #[.int .i64 (val i)].toList = ints (O (i + 1))) := ⟨by rw [HOY.out i, ints_append]; rfl⟩
      have HLL : Hd ((O i).length + 1 = (O (i + 1)).length) := ⟨by rw [HOY.out i]; simp⟩
      clear hs1
      have hcall : ∀ W, SepI W (pts wr.heap.size (.cells #[.int .i64 q.ca, .int .i64 q.sa, .int .i64 q.pa] 110 (0, 0)) * (Row 3 1 (.slice A0 (O i).length c0) (O i).length (ints (O i)) * (I i * S0))) → Calls Try.prog g (#[.pointer (some ⟨gm, 0, none⟩), .agg #[.int .i64 q.ca, .int .i64 q.sa, .int .i64 q.pa]] ++ lb) W fun e w' => e = .returned (.int .i64 (val i)) ∧ Post W (pts wr.heap.size (.cells #[.int .i64 q.ca, .int .i64 q.sa, .int .i64 q.pa] 110 (0, 0)) * (Row 3 1 (.slice A0 (O i).length c0) (O i).length (ints (O i)) * (I (i + 1) * S0))) w' := fun W HW => (HCQ.out (pts wr.heap.size (.cells #[.int .i64 q.ca, .int .i64 q.sa, .int .i64 q.pa] 110 (0, 0)) * Row 3 1 (.slice A0 (O i).length c0) (O i).length (ints (O i))) W (SepI.cast HW (star_assoc _ _ _).symm)).mono (fun e w' h => ⟨h.1, ⟨SepI.cast h.2.sep (star_assoc _ _ _), h.2.ext⟩⟩)
      have HCC := Hd.mk hcall
      clear hcall
      go_wp2_with (first | ((with_reducible refine (HCC.out _ inferInstance).mono ?_); rintro e w3 ⟨rfl, HP'⟩; have HS5 := HP'.sep; have HE5 := HP'.ext; clear HP') | (at_builtin; go_must (refine ev_append (v := .slice A0 (O i).length c0) rfl _ _ 48 rfl rfl 8 _ Try.underlying48 info_int rfl (by decide) (by decide) (w3.heap.size) 1 1 rfl rfl (by simp [Value.oneCell']) (by omega) ?_); intro v1 w4 HS4 HE4; replace HS4 := Row.as HS4 HLL.out HOO.out))
      go_roundw
      case rel => exact ⟨i + 1, v1, by omega, by go_num, rfl, inferInstance, Ent.sep (S := _) (T := Row 3 1 v1 (O (i + 1)).length (ints (O (i + 1))) * (I (i + 1) * S0)) inferInstance HS4⟩
      case measure => (simp [intOf]; try omega)
    · have : i = m := by omega
      subst this
      obtain ⟨A0, c0, rfl, hc0, hc1⟩ := Row.form HS3
      go_wp2
      go_ret2
      refine IntsOk.of (v := .slice A0 (O i).length c0) (Post.mk' ?_ inferInstance)
      have h1 : SepI wr ((Row 3 1 (.slice A0 (O i).length c0) (O i).length (ints (O i)) * I i) * S0) := SepI.cast HS3 (star_assoc _ _ _).symm
      have h2 := HM1.out.out h1
      exact Ent.sep (S := _) inferInstance (SepI.cast h2 (star_assoc (Row 3 1 (.slice A0 (O i).length c0) (O i).length (ints (O i))) (I i) (pts be (.cells #[.slice A bs.length c] 33 (0, 0)) * S)))
set_option maxRecDepth 100000 in
set_option maxHeartbeats 8000000 in
theorem impl_SavedCalls1 (S : HP) (w : World) [H : SepI w S] (gm : Nat) (a b d : Int) :
    Calls Try.prog 82 #[.pointer (some ⟨gm, 0, none⟩), .agg #[.int .i64 a, .int .i64 b, .int .i64 d]] w fun e w' => e = .returned (.int .i64 b) ∧ Post w S w' := by
  go_enter Try.func82, Try.ntmps82
  go_wp2
  go_ret
  exact ⟨rfl, Post.mk' (Ent.sep (S := _) inferInstance inferInstance) inferInstance⟩
theorem map_range_get (l : List Rc) (f : Rc → Int) (z : Rc) : (List.range l.length).map (fun k => f (l.getD k z)) = l.map f := by
  apply List.ext_getElem?
  intro i
  rw [List.getElem?_map, List.getElem?_map]
  by_cases h : i < l.length
  · rw [List.getElem?_range h, Option.map_some, List.getD_eq_getElem?_getD, List.getElem?_eq_getElem h]; rfl
  · rw [List.getElem?_eq_none (by simpa using h), List.getElem?_eq_none (by omega)]; rfl
set_option maxRecDepth 100000 in
set_option maxHeartbeats 8000000 in
theorem impl_SavedCallsN (S : HP) (w : World) [H : SepI w S] (A : Option Addr) (c : Nat) (bs : List Bd) [r : Rd S A (cBds bs)] [B : Bodies S bs] (fn arg fuel : Int) (hv : askB (bs.map (·.l)) fn arg fuel = false) :
    Calls Try.prog 55 #[.agg #[.slice A bs.length c], .int .i64 fn, .int .i64 arg, .int .i64 fuel] w (IntsOk S [] false w) := by
  have HV := Hd.mk hv
  clear hv
  go_enter Try.func55, Try.ntmps55
  go_wp2_with fail
  refine (impl_ofRecoveriesN _ _ A c bs fn arg fuel _ _ HV.out).mono ?_
  rintro e w1 ⟨A1, c1, rfl, HP⟩
  have HS1 : SepI w1 (Row 3 1 (.slice A1 0 c1) 0 [] * (pts w.heap.size (.cells #[.slice A bs.length c] 33 (0, 0)) * S)) := HP.sep
  have HE1 := HP.ext
  clear HP
  go_wp2
  go_ret2
  exact IntsOk.nil (v := .slice A1 0 c1) (Post.mk' (Ent.sep (S := _) inferInstance inferInstance) inferInstance)
set_option maxRecDepth 100000 in
set_option maxHeartbeats 8000000 in
theorem impl_SavedCallsV (S : HP) (w : World) [H : SepI w S] (A : Option Addr) (c : Nat) (bs : List Bd) [r : Rd S A (cBds bs)] [B : Bodies S bs] (fn arg : Int) (fu : Nat) (L : List (List St)) (hbs : bs.map (·.l) = L) (hv : askB L fn arg fu = true) :
    Calls Try.prog 55 #[.agg #[.slice A bs.length c], .int .i64 fn, .int .i64 arg, .int .i64 fu] w (IntsOk S ((ranM L fn arg fu).m.recs.map (·.sa)) true w) := by
  have HV := Hd.mk hv
  have HB := Hd.mk hbs
  clear hv hbs
  obtain ⟨ans, hans⟩ : ∃ ans, (ranM L fn arg fu).m.recs.map (·.sa) = ans := ⟨_, rfl⟩
  rw [hans]
  have HANS := Hd.mk hans
  clear hans
  have HEN : Hd (Enters 82) := ⟨fun args w => by go_simp⟩
  go_enter Try.func55, Try.ntmps55
  go_wp2_with fail
  have HE0 : SepI (w.alloc (.cells #[.slice A bs.length c] 33 (0, 0))) (emp * (pts w.heap.size (.cells #[.slice A bs.length c] 33 (0, 0)) * S)) := SepI.emp inferInstance
  refine (@impl_ofRecoveriesV _ (fun _ => emp) _ HE0 A c bs inferInstance inferInstance _ _ (fun k => ((ranM L fn arg fu).m.recs.getD k ⟨0, 0, 0⟩).sa) HEN.out fn arg fu L HB.out HV.out ?_).mono ?_
  · intro X gm x S0 M hp k q hq X2 W HW
    have e : ((ranM L fn arg fu).m.recs.getD k ⟨0, 0, 0⟩).sa = q.sa := by rw [List.getD_eq_getElem?_getD, hq]; rfl
    refine (impl_SavedCalls1 _ W gm q.ca q.sa q.pa).mono ?_
    rintro e1 w1 ⟨rfl, h⟩
    exact ⟨by show _ = Ending.returned (.int .i64 (((ranM L fn arg fu).m.recs.getD k ⟨0, 0, 0⟩).sa)); rw [e], h⟩
  · rw [map_range_get _ (·.sa), HANS.out]
    rintro e w1 ⟨A1, c1, rfl, HP⟩
    have HS1 := HP.sep
    have HE1 := HP.ext
    clear HP
    go_wp2
    go_ret2
    exact IntsOk.of (v := .slice A1 ans.length c1) (Post.mk' (Ent.sep (S := _) inferInstance inferInstance) inferInstance)
end Go.Proofs.Ythnaoedlnificaa
