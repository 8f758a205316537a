/- What is told of panics: ofPanics by a closure's contract. Conditions: lengths within bounds. -/
import Derived.Test.YtobikkdnalnllaaZb
import Derived.Test.YtobikkdnalnllaaQk
namespace Go.Proofs.Ytobikkdnalnllaa
open Go.RowKit SL
attribute [local go_sem] cell_blk frozen_blk lt_blk cell_at frozen_row lt_row
set_option linter.unusedVariables false
set_option linter.unusedSimpArgs false
theorem cPvs_at {l : List Pv} {k : Nat} {x : Pv} (h : l[k]? = some x) : (cPvs l)[k * 9]? = some (.int .i64 x.p.ca) ∧ (cPvs l)[k * 9 + 1]? = some (.int .i64 x.p.fn) ∧ (cPvs l)[k * 9 + 2]? = some (.int .i64 x.p.va) ∧ (cPvs l)[k * 9 + 3]? = some (.int .i64 x.p.de) ∧ (cPvs l)[k * 9 + 4]? = some (.int .i64 x.p.fa) ∧ (cPvs l)[k * 9 + 5]? = some (.int .i64 x.p.by_) ∧ (cPvs l)[k * 9 + 6]? = some (.int .i64 x.p.la) ∧ (cPvs l)[k * 9 + 7]? = some (.bool x.p.ag) ∧ (cPvs l)[k * 9 + 8]? = some (x.u) :=
  ⟨flat_get (f := cPv) (k := 9) (fun _ => rfl) h 0 (by omega), flat_get (f := cPv) (k := 9) (fun _ => rfl) h 1 (by omega), flat_get (f := cPv) (k := 9) (fun _ => rfl) h 2 (by omega), flat_get (f := cPv) (k := 9) (fun _ => rfl) h 3 (by omega), flat_get (f := cPv) (k := 9) (fun _ => rfl) h 4 (by omega), flat_get (f := cPv) (k := 9) (fun _ => rfl) h 5 (by omega), flat_get (f := cPv) (k := 9) (fun _ => rfl) h 6 (by omega), flat_get (f := cPv) (k := 9) (fun _ => rfl) h 7 (by omega), flat_get (f := cPv) (k := 9) (fun _ => rfl) h 8 (by omega)⟩
def OfPn (S : HP) (A : Option Addr) (n c : Nat) (fuel : Int) (R : Run) (g : Nat) (lb : Array Value) (val : Pn → Int) : Prop :=
  ∀ (S0 : HP) (y : Pv) (W : World), SepI W S0 →
    Calls Try.prog g (#[.agg #[.int .i64 y.p.ca, .int .i64 y.p.fn, .int .i64 y.p.va, .int .i64 y.p.de, .int .i64 y.p.fa, .int .i64 y.p.by_, .int .i64 y.p.la, .bool y.p.ag, y.u]] ++ lb) W fun e w' => e = .returned (.int .i64 (val y.p)) ∧ Post W S0 w'
set_option maxRecDepth 100000 in
set_option maxHeartbeats 8000000 in
theorem impl_ofPanicsN (S : HP) (w : World) [H : SepI w S] (A : Option Addr) (c : Nat) (bs : List Bd) [r : Rd S A (cBds bs)] [B : Bodies S bs] (fn arg fuel : Int) (g : Nat) (lb : Array Value) (hv : askB (bs.map (·.l)) fn arg fuel = false) :
    Calls Try.prog 63 #[.agg #[.slice A bs.length c], .int .i64 fn, .int .i64 arg, .int .i64 fuel, .func (.func g) #[] lb] w (IntsOk S [] false w) := by
  have hbn := B.n
  have HV := Hd.mk hv
  clear hv
  have hnot : ∀ (x : Bool) (w : World), (Op.unary .not (.bool x)).run Try.prog w = .ok (.bool (!x)) w := fun _ _ => rfl
  go_enter Try.func63, Try.ntmps63
  go_wp2_with fail
  refine (impl_ranN _ _ A c bs fn arg fuel HV.out).mono ?_
  rintro e w1 ⟨rfl, HP⟩
  have HS1 := HP.sep
  have HE1 := HP.ext
  clear HP
  go_wp2
  go_ret2
  exact IntsOk.nil (v := .slice none 0 0) (Post.mk' (Ent.sep (S := _) inferInstance (Row.nil0 HS1 3 1)) inferInstance)
set_option maxRecDepth 100000 in
set_option maxHeartbeats 8000000 in
theorem impl_ofPanicsV (S : HP) (w : World) [H : SepI w S] (A : Option Addr) (c : Nat) (bs : List Bd) [r : Rd S A (cBds bs)] [B : Bodies S bs] (g : Nat) (lb : Array Value) (val : Pn → Int) (eg : Enters g) (fn arg : Int) (fu : Nat) (L : List (List St)) (hbs : bs.map (·.l) = L) (hv : askB L fn arg fu = true)
    (hof : OfPn S A bs.length c fu (ranM L fn arg fu) g lb val) :
    Calls Try.prog 63 #[.agg #[.slice A bs.length c], .int .i64 fn, .int .i64 arg, .int .i64 fu, .func (.func g) #[] lb] w (IntsOk S ((ranM L fn arg fu).m.panics.map val) true w) := by
  have HOF := Hd.mk hof
  clear hof
  have hbn := B.n
  have HV := Hd.mk hv
  have HB := Hd.mk hbs
  have HF := Hd.mk (factsB hv)
  clear hv hbs
  obtain ⟨R, hR⟩ : ∃ R, ranM L fn arg fu = R := ⟨_, rfl⟩
  have HR := Hd.mk hR
  rw [hR] at HF HOF ⊢
  clear hR
  obtain ⟨m, hm⟩ : ∃ m, m = R.m.panics.length := ⟨_, rfl⟩
  have HM := Hd.mk hm
  obtain ⟨O, hO⟩ : ∃ O : Nat → List Int, O = fun i => (R.m.panics.take i).map val := ⟨_, rfl⟩
  have HO0 : Hd (O 0 = []) := ⟨by rw [hO]; rfl⟩
  have HOM : Hd (O m = R.m.panics.map val) := ⟨by rw [hO, hm]; simp only [List.take_length]⟩
  have HOY : Hd (∀ (i : Nat) (x : Pn), R.m.panics[i]? = some x → O (i + 1) = O i ++ [val x]) := ⟨fun i x h => by rw [hO]; simp only; rw [take_succ_eq h, List.map_append]; rfl⟩
  have HOL : Hd (∀ i : Nat, (O i).length ≤ i) := ⟨fun i => by rw [hO]; simp only [List.length_map, List.length_take]; omega⟩
  have hml : m ≤ 1000 := by have h1 := HF.out.bl.p; have h2 := HF.out.ts; omega
  rw [← HOM.out]
  clear hO
  have hnot : ∀ (x : Bool) (w : World), (Op.unary .not (.bool x)).run Try.prog w = .ok (.bool (!x)) w := fun _ _ => rfl
  unfold Enters at eg
  go_enter Try.func63, Try.ntmps63
  go_wp2_with fail
  refine (impl_ranX _ _ A c bs fn arg fu L HB.out HV.out).mono ?_
  rw [HR.out]
  rintro e w1 ⟨gm, ⟨A1, c1, A2, c2, A3, c3, A4, c4, A5, c5, bm, ps⟩, S0, rfl, hps, M, HP⟩
  have i1 := M.blk
  have rT := M.tr
  have rO := M.ow
  have rC := M.ca
  have rP := M.pa
  have rR := M.rc
  dsimp only at hps i1 rT rO rC rP rR
  have HPS := Hd.mk hps
  have HM1 := Hd.mk M
  have hpl : ps.length = m := by rw [hm, ← HPS.out, List.length_map]
  rw [hpl] at i1
  clear hps M hpl hm
  have HS1 := HP.sep
  have HE1 := HP.ext
  clear HP
  obtain ⟨bf, hbf⟩ : ∃ bf, bf = w1.heap.size := ⟨_, rfl⟩
  have hlit : SepI (w1.alloc (.cells #[] 3 (0, 0))) (Row 3 1 (.slice (some ⟨w1.heap.size, 0, none⟩) 0 0) 0 [] * S0) := Row.lit0 (SepI.i_alloc w1 (.cells #[] 3 (0, 0)) S0 _)
  have HBF := Hd.mk hbf
  clear hbf
  go_wp2
  rw [← HBF.out] at hlit ⊢
  go_loopw [14, 33] (fun v3 v4 wr => ∃ (i : Nat) (vv : Value), i ≤ m ∧ v4 = .int .i64 i ∧ v3 = vv ∧ ExtI w wr ∧ SepI wr (Row 3 1 vv (O i).length (ints (O i)) * S0)) (fun _ v _ => m - (intOf v).toNat)
  case atStart => exact ⟨0, .slice (some ⟨bf, 0, none⟩) 0 0, Nat.zero_le _, rfl, rfl, inferInstance, SepI.cast hlit (by rw [HO0.out]; rfl)⟩
  case round =>
    obtain ⟨i, vv, hi, rfl, rfl, HX, HS3⟩ := hrel
    clear hlit
    by_cases hlt : i < m
    · have hpl : ps.length = R.m.panics.length := by rw [← HPS.out, List.length_map]
      obtain ⟨y, hs1⟩ := get_ex (xs := ps) (k := i) (by rw [hpl, ← HM.out]; exact hlt)
      obtain ⟨bp, op, rfl⟩ := rP.addr HS1 (j := i) (by rw [cPvs_len, hpl, ← HM.out]; omega)
      obtain ⟨Au, cu, hyu⟩ := HM1.out.us HS1 y (List.mem_of_getElem? hs1)
      obtain ⟨yp, yu⟩ := y
      simp only at hyu
      subst hyu
      have e0 := rP.cell (cPvs_at hs1).1
      have e1 := rP.cell (cPvs_at hs1).2.1
      have e2 := rP.cell (cPvs_at hs1).2.2.1
      have e3 := rP.cell (cPvs_at hs1).2.2.2.1
      have e4 := rP.cell (cPvs_at hs1).2.2.2.2.1
      have e5 := rP.cell (cPvs_at hs1).2.2.2.2.2.1
      have e6 := rP.cell (cPvs_at hs1).2.2.2.2.2.2.1
      have e7 := rP.cell (cPvs_at hs1).2.2.2.2.2.2.2.1
      have e8 := rP.cell (cPvs_at hs1).2.2.2.2.2.2.2.2
      simp only at e0 e1 e2 e3 e4 e5 e6 e7 e8
      have hs2 : R.m.panics[i]? = some yp := by rw [← HPS.out, List.getElem?_map, hs1]; rfl
      obtain ⟨A0, c0, rfl, hc0, hc1⟩ := Row.form HS3
      have hol : (O i).length ≤ 1000 := by have := HOL.out i; omega
      have HOO : Hd (ints (O i) ++ #[.int .i64 (val yp)].toList = ints (O (i + 1))) := ⟨by rw [HOY.out i _ hs2, ints_append]; rfl⟩
      have HLL : Hd ((O i).length + 1 = (O (i + 1)).length) := ⟨by rw [HOY.out i _ hs2]; simp⟩
      clear hs1 hs2 hpl
      have hcall : ∀ W, SepI W (pts wr.heap.size (.cells #[.int .i64 yp.ca, .int .i64 yp.fn, .int .i64 yp.va, .int .i64 yp.de, .int .i64 yp.fa, .int .i64 yp.by_, .int .i64 yp.la, .bool yp.ag, .slice Au yp.un.length cu] 78 (0, 0)) * (Row 3 1 (.slice A0 (O i).length c0) (O i).length (ints (O i)) * S0)) → Calls Try.prog g (#[.agg #[.int .i64 yp.ca, .int .i64 yp.fn, .int .i64 yp.va, .int .i64 yp.de, .int .i64 yp.fa, .int .i64 yp.by_, .int .i64 yp.la, .bool yp.ag, .slice Au yp.un.length cu]] ++ lb) W fun e w' => e = .returned (.int .i64 (val yp)) ∧ Post W (pts wr.heap.size (.cells #[.int .i64 yp.ca, .int .i64 yp.fn, .int .i64 yp.va, .int .i64 yp.de, .int .i64 yp.fa, .int .i64 yp.by_, .int .i64 yp.la, .bool yp.ag, .slice Au yp.un.length cu] 78 (0, 0)) * (Row 3 1 (.slice A0 (O i).length c0) (O i).length (ints (O i)) * S0)) w' := fun W HW => HOF.out _ ⟨yp, .slice Au yp.un.length cu⟩ W HW
      have HCC := Hd.mk hcall
      clear hcall
      go_wp2_with (first | ((with_reducible refine (HCC.out _ inferInstance).mono ?_); rintro e w3 ⟨rfl, HP'⟩; have HS5 := HP'.sep; have HE5 := HP'.ext; clear HP') | (at_builtin; go_must (refine ev_append (v := .slice A0 (O i).length c0) rfl _ _ 26 rfl rfl 8 _ Try.underlying26 info_int rfl (by decide) (by decide) (w3.heap.size) 1 1 rfl rfl (by simp [Value.oneCell']) (by omega) ?_); intro v1 w4 HS4 HE4; replace HS4 := Row.as HS4 HLL.out HOO.out))
      go_roundw
      case rel => exact ⟨i + 1, v1, by omega, by go_num, rfl, inferInstance, Ent.sep (S := _) (T := Row 3 1 v1 (O (i + 1)).length (ints (O (i + 1))) * S0) inferInstance HS4⟩
      case measure => (simp [intOf]; try omega)
    · have : i = m := by omega
      subst this
      obtain ⟨A0, c0, rfl, hc0, hc1⟩ := Row.form HS3
      go_wp2
      go_ret2
      exact IntsOk.of (v := .slice A0 (O i).length c0) (Post.mk' (Ent.sep (S := _) inferInstance (HM1.out.out (Ent.sep (S := _) (T := Row 3 1 (.slice A0 (O i).length c0) (O i).length (ints (O i)) * S0) inferInstance inferInstance))) inferInstance)
set_option maxRecDepth 100000 in
set_option maxHeartbeats 8000000 in
theorem impl_Rethrows1 (S : HP) (w : World) [H : SepI w S] (y : Pv) :
    Calls Try.prog 64 #[.agg #[.int .i64 y.p.ca, .int .i64 y.p.fn, .int .i64 y.p.va, .int .i64 y.p.de, .int .i64 y.p.fa, .int .i64 y.p.by_, .int .i64 y.p.la, .bool y.p.ag, y.u]] w fun e w' => e = .returned (.int .i64 (if y.p.ag then 1 else 0)) ∧ Post w S w' := by
  obtain ⟨⟨a1, a2, a3, a4, a5, a6, a7, a8, a9⟩, u⟩ := y
  cases a8
  all_goals
    go_enter Try.func64, Try.ntmps64
    go_wp2
    go_ret
    exact ⟨rfl, Post.mk' (Ent.sep (S := _) inferInstance inferInstance) inferInstance⟩
end Go.Proofs.Ytobikkdnalnllaa
