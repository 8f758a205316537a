/- PanicFates, UnwoundBy, RecoveredBy by the program. Conditions: lengths within bounds. -/
import Derived.Test.YtobikkdnalnllaaZe
import Derived.Test.YtobikkdnalnllaaZg
namespace Go.Proofs.Ytobikkdnalnllaa
open Go.RowKit SL
attribute [local go_sem] cell_blk frozen_blk lt_blk cell_at frozen_row lt_row
set_option linter.unusedVariables false
set_option linter.unusedSimpArgs false

/-- A row of triples beside a bool. -/
def A3Ok (S : HP) (l : List (Int × Int × Int)) (ok : Bool) (w : World) (e : Ending) (w' : World) : Prop := ∃ A c, e = two (.slice A l.length c) (.bool ok) ∧ Post w (Row 105 3 (.slice A l.length c) l.length (ints (flat3 l)) * S) w'
theorem A3Ok.of {S : HP} {l : List (Int × Int × Int)} {ok : Bool} {w w' : World} {v : Value} (h : Post w (Row 105 3 v l.length (c3s l) * S) w') : A3Ok S l ok w (two v (.bool ok)) w' := by
  obtain ⟨A, c, rfl, _⟩ := Row.form h.sep
  rw [c3s_flat] at h
  exact ⟨A, c, rfl, h⟩
theorem A3Ok.nil {S : HP} {ok : Bool} {w w' : World} {v : Value} (h : Post w (Row 105 3 v 0 [] * S) w') : A3Ok S [] ok w (two v (.bool ok)) w' := A3Ok.of (l := []) h
/-- The panics and their fates. -/
def fatA (l : List Pn) : List (Int × Int × Int) := l.map (fun p => (p.fn, p.va, p.fa))
/-- The panics that are recovered and who recovers. -/
def recA (m : Ma) : List (Int × Int) := m.recs.map (fun r => (r.pa, fnOf m r.ca))
set_option maxRecDepth 100000 in
set_option maxHeartbeats 8000000 in
theorem impl_PanicFatesN (S : HP) (w : World) [H : SepI w S] (A : Option Addr) (c : Nat) (bs : List Bd) [r : Rd S A (cBds bs)] [B : Bodies S bs] (fn arg fuel : Int) (hv : askB (bs.map (·.l)) fn arg fuel = false) :
    Calls Try.prog 40 #[.agg #[.slice A bs.length c], .int .i64 fn, .int .i64 arg, .int .i64 fuel] w (A3Ok S [] false w) := by
  have hbn := B.n
  have HV := Hd.mk hv
  clear hv
  have hnot : ∀ (x : Bool) (w : World), (Op.unary .not (.bool x)).run Try.prog w = .ok (.bool (!x)) w := fun _ _ => rfl
  go_enter Try.func40, Try.ntmps40
  go_wp2_with fail
  refine (impl_ranN _ _ A c bs fn arg fuel HV.out).mono ?_
  rintro e w1 ⟨rfl, HP⟩
  have HS1 := HP.sep
  have HE1 := HP.ext
  clear HP
  go_wp2
  go_ret2
  exact A3Ok.nil (v := .slice none 0 0) (Post.mk' (Ent.sep (S := _) inferInstance (Row.nil0 HS1 105 3)) inferInstance)
set_option maxRecDepth 100000 in
set_option maxHeartbeats 8000000 in
theorem impl_PanicFatesV (S : HP) (w : World) [H : SepI w S] (A : Option Addr) (c : Nat) (bs : List Bd) [r : Rd S A (cBds bs)] [B : Bodies S bs] (fn arg : Int) (fu : Nat) (L : List (List St)) (hbs : bs.map (·.l) = L) (hv : askB L fn arg fu = true) :
    Calls Try.prog 40 #[.agg #[.slice A bs.length c], .int .i64 fn, .int .i64 arg, .int .i64 fu] w (A3Ok S (fatA (ranM L fn arg fu).m.panics) true w) := by
  have hbn := B.n
  have HV := Hd.mk hv
  have HB := Hd.mk hbs
  have HF := Hd.mk (factsB hv)
  clear hv hbs
  obtain ⟨R, hR⟩ : ∃ R, ranM L fn arg fu = R := ⟨_, rfl⟩
  have HR := Hd.mk hR
  rw [hR] at HF ⊢
  clear hR
  obtain ⟨m, hm⟩ : ∃ m, m = R.m.panics.length := ⟨_, rfl⟩
  have HM := Hd.mk hm
  obtain ⟨O, hO⟩ : ∃ O : Nat → List (Int × Int × Int), O = fun i => fatA (R.m.panics.take i) := ⟨_, rfl⟩
  have HO0 : Hd (O 0 = []) := ⟨by rw [hO]; rfl⟩
  have HOM : Hd (O m = fatA R.m.panics) := ⟨by rw [hO, hm]; simp only [List.take_length]⟩
  have HOY : Hd (∀ (i : Nat) (x : Pn), R.m.panics[i]? = some x → O (i + 1) = O i ++ [(x.fn, x.va, x.fa)]) := ⟨fun i x h => by rw [hO]; unfold fatA; simp only; rw [take_succ_eq h, List.map_append]; rfl⟩
  have HOL : Hd (∀ i : Nat, (O i).length ≤ i) := ⟨fun i => by rw [hO]; unfold fatA; simp only [List.length_map, List.length_take]; omega⟩
  have hml : m ≤ 1000 := by have h1 := HF.out.bl.p; have h2 := HF.out.ts; omega
  rw [← HOM.out]
  clear hO
  have hnot : ∀ (x : Bool) (w : World), (Op.unary .not (.bool x)).run Try.prog w = .ok (.bool (!x)) w := fun _ _ => rfl
  go_enter Try.func40, Try.ntmps40
  go_wp2_with fail
  refine (impl_ranX _ _ A c bs fn arg fu L HB.out HV.out).mono ?_
  rw [HR.out]
  rintro e w1 ⟨gm, ⟨A1, c1, A2, c2, A3, c3, A4, c4, A5, c5, bm, ps⟩, S0, rfl, hps, M, HP⟩
  have i1 := M.blk
  have rT := M.tr
  have rO := M.ow
  have rC := M.ca
  have rP := M.pa
  have rR := M.rc
  dsimp only at hps i1 rT rO rC rP rR
  have HPS := Hd.mk hps
  have HM1 := Hd.mk M
  have hpl : ps.length = m := by rw [hm, ← HPS.out, List.length_map]
  rw [hpl] at i1
  clear hps M hpl hm
  have HS1 := HP.sep
  have HE1 := HP.ext
  clear HP
  obtain ⟨bf, hbf⟩ : ∃ bf, bf = w1.heap.size := ⟨_, rfl⟩
  have hlit : SepI (w1.alloc (.cells #[] 105 (0, 0))) (Row 105 3 (.slice (some ⟨w1.heap.size, 0, none⟩) 0 0) 0 [] * S0) := Row.lit0 (SepI.i_alloc w1 (.cells #[] 105 (0, 0)) S0 _)
  have HBF := Hd.mk hbf
  clear hbf
  go_wp2
  rw [← HBF.out] at hlit ⊢
  go_loopw [12, 31] (fun v3 v4 wr => ∃ (i : Nat) (vv : Value), i ≤ m ∧ v4 = .int .i64 i ∧ v3 = vv ∧ ExtI w wr ∧ SepI wr (Row 105 3 vv (O i).length (c3s (O i)) * S0)) (fun _ v _ => m - (intOf v).toNat)
  case atStart => exact ⟨0, .slice (some ⟨bf, 0, none⟩) 0 0, Nat.zero_le _, rfl, rfl, inferInstance, SepI.cast hlit (by rw [HO0.out]; rfl)⟩
  case round =>
    obtain ⟨i, vv, hi, rfl, rfl, HX, HS3⟩ := hrel
    clear hlit
    by_cases hlt : i < m
    · have hpl : ps.length = R.m.panics.length := by rw [← HPS.out, List.length_map]
      obtain ⟨y, hs1⟩ := get_ex (xs := ps) (k := i) (by rw [hpl, ← HM.out]; exact hlt)
      obtain ⟨bp, op, rfl⟩ := rP.addr HS1 (j := i) (by rw [cPvs_len, hpl, ← HM.out]; omega)
      obtain ⟨Au, cu, hyu⟩ := HM1.out.us HS1 y (List.mem_of_getElem? hs1)
      obtain ⟨yp, yu⟩ := y
      simp only at hyu
      subst hyu
      have e0 := rP.cell (cPvs_at hs1).1
      have e1 := rP.cell (cPvs_at hs1).2.1
      have e2 := rP.cell (cPvs_at hs1).2.2.1
      have e3 := rP.cell (cPvs_at hs1).2.2.2.1
      have e4 := rP.cell (cPvs_at hs1).2.2.2.2.1
      have e5 := rP.cell (cPvs_at hs1).2.2.2.2.2.1
      have e6 := rP.cell (cPvs_at hs1).2.2.2.2.2.2.1
      have e7 := rP.cell (cPvs_at hs1).2.2.2.2.2.2.2.1
      have e8 := rP.cell (cPvs_at hs1).2.2.2.2.2.2.2.2
      simp only at e0 e1 e2 e3 e4 e5 e6 e7 e8
      have hs2 : R.m.panics[i]? = some yp := by rw [← HPS.out, List.getElem?_map, hs1]; rfl
      obtain ⟨A0, c0, rfl, hc0, hc1⟩ := Row.form HS3
      have hol : (O i).length ≤ 1000 := by have := HOL.out i; omega
      have HOO : Hd (c3s (O i) ++ #[.int .i64 yp.fn, .int .i64 yp.va, .int .i64 yp.fa].toList = c3s (O (i + 1))) := ⟨by rw [HOY.out i _ hs2, c3s_snoc]⟩
      have HLL : Hd ((O i).length + 1 = (O (i + 1)).length) := ⟨by rw [HOY.out i _ hs2]; simp⟩
      clear hs1 hs2 hpl
      go_wp2_with (at_builtin; go_must (refine ev_append (v := .slice A0 (O i).length c0) rfl _ _ 46 rfl rfl 24 _ Try.underlying46 info_t3 rfl (by decide) (by decide) (wr.heap.size + 1) 1 1 rfl rfl (by simp [Value.oneCell']) (by omega) ?_); intro v1 w4 HS4 HE4; replace HS4 := Row.as HS4 HLL.out HOO.out)
      go_roundw
      case rel => exact ⟨i + 1, v1, by omega, by go_num, rfl, inferInstance, Ent.sep (S := _) (T := Row 105 3 v1 (O (i + 1)).length (c3s (O (i + 1))) * S0) inferInstance HS4⟩
      case measure => (simp [intOf]; try omega)
    · have : i = m := by omega
      subst this
      obtain ⟨A0, c0, rfl, hc0, hc1⟩ := Row.form HS3
      go_wp2
      go_ret2
      exact A3Ok.of (v := .slice A0 (O i).length c0) (Post.mk' (Ent.sep (S := _) inferInstance (HM1.out.out (Ent.sep (S := _) (T := Row 105 3 (.slice A0 (O i).length c0) (O i).length (c3s (O i)) * S0) inferInstance inferInstance))) inferInstance)
end Go.Proofs.Ytobikkdnalnllaa
