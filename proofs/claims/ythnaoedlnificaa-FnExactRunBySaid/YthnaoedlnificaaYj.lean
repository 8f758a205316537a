/- DeferredBy and RunBy by the program, and both ways joined. Conditions: lengths within bounds. -/
import Derived.Test.YthnaoedlnificaaYi
import Derived.Deep.QuietTactic
import Derived.BigQuiet
namespace Go.Proofs.Ythnaoedlnificaa
open Go.RowKit SL
attribute [local go_sem] cell_blk frozen_blk lt_blk cell_at frozen_row lt_row
set_option linter.unusedVariables false
set_option linter.unusedSimpArgs false

theorem MRd.drop {S0 X S : HP} {gm : Nat} {A : Option Addr} {n c : Nat} {fuel : Int} {R : Run} {x : MVs} (M : MRd S0 (X * S) gm A n c fuel R x) : MRd S0 S gm A n c fuel R x :=
  ⟨M.blk, M.tr, M.ow, M.ca, M.pa, M.rc, fun H => Ent.sep (S := _) inferInstance (M.out H), fun H => (M.out0 H).right⟩
theorem MRd.add {S0 X S : HP} {gm : Nat} {A : Option Addr} {n c : Nat} {fuel : Int} {R : Run} {x : MVs} (M : MRd S0 S gm A n c fuel R x) : MRd (X * S0) S gm A n c fuel R x := by
  have i1 := M.blk
  have i2 := M.tr
  have i3 := M.ow
  have i4 := M.ca
  have i5 := M.pa
  have i6 := M.rc
  refine ⟨inferInstance, inferInstance, inferInstance, inferInstance, inferInstance, inferInstance, fun {Y w} H => ?_, fun H => M.out0 H.right⟩
  have h1 : SepI w ((Y * X) * S0) := SepI.cast H (star_assoc _ _ _).symm
  have h2 : SepI w (Y * (X * S)) := SepI.cast (M.out h1) (star_assoc _ _ _)
  exact Ent.sep (S := _) inferInstance h2
theorem CellAt.pts0 {b : Nat} {v : Value} {e : TypeId} {S : HP} : CellAt (pts b (.cells #[v] e (0, 0)) * S) b 0 v := ⟨fun w H => (cell_blk _ _ _ _ _ _ _).trans rfl⟩
theorem CellAt.from {S0 S : HP} {b j : Nat} {v : Value} (h : ∀ w, SepI w S0 → SepI w S) (c : CellAt S b j v) : CellAt S0 b j v := ⟨fun w H => c.out w (h w H)⟩
set_option maxRecDepth 100000 in
set_option maxHeartbeats 8000000 in
theorem impl_ranCallN (S : HP) (w : World) [H : SepI w S] (A : Option Addr) (c : Nat) (bs : List Bd) [r : Rd S A (cBds bs)] [B : Bodies S bs] (fn arg fuel call : Int) (hv : askB (bs.map (·.l)) fn arg fuel = false) :
    Calls Try.prog 76 #[.agg #[.slice A bs.length c], .int .i64 fn, .int .i64 arg, .int .i64 fuel, .int .i64 call] w fun e w' => e = two (.pointer none) (.bool false) ∧ Post w S w' := by
  have hbn := B.n
  have HV := Hd.mk hv
  clear hv
  go_enter Try.func76, Try.ntmps76
  go_wp2_with fail
  refine (impl_ranN _ _ A c bs fn arg fuel HV.out).mono ?_
  rintro e w1 ⟨rfl, HP⟩
  have HS1 := HP.sep
  have HE1 := HP.ext
  clear HP
  go_wp2
  go_ret2
  exact ⟨rfl, Post.mk' (Ent.sep (S := _) inferInstance inferInstance) inferInstance⟩
set_option maxRecDepth 100000 in
set_option maxHeartbeats 8000000 in
theorem impl_ranCallV (S : HP) (w : World) [H : SepI w S] (A : Option Addr) (c : Nat) (bs : List Bd) [r : Rd S A (cBds bs)] [B : Bodies S bs] (fn arg : Int) (fu : Nat) (L : List (List St)) (hbs : bs.map (·.l) = L) (hv : askB L fn arg fu = true) (call : Int) (v : Bool) (hin : inB call 0 (((ranM L fn arg fu).m.calls.length : Int) - 1) = v) :
    Calls Try.prog 76 #[.agg #[.slice A bs.length c], .int .i64 fn, .int .i64 arg, .int .i64 fu, .int .i64 call] w fun e w' => ∃ gm x S0, e = two (.pointer (some ⟨gm, 0, none⟩)) (.bool v) ∧ x.ps.map (·.p) = (ranM L fn arg fu).m.panics ∧ MRd S0 S gm A bs.length c fu (ranM L fn arg fu) x ∧ Post w S0 w' := by
  have hbn := B.n
  have HV := Hd.mk hv
  have HB := Hd.mk hbs
  have HF := Hd.mk (factsB hv)
  clear hv hbs
  obtain ⟨R, hR⟩ : ∃ R, ranM L fn arg fu = R := ⟨_, rfl⟩
  have HR := Hd.mk hR
  rw [hR] at HF hin ⊢
  clear hR
  have hcl : R.m.calls.length ≤ 1000 := by have h1 := HF.out.bl.c; have h2 := HF.out.ts; omega
  obtain ⟨nc, hnc⟩ : ∃ nc, nc = R.m.calls.length := ⟨_, rfl⟩
  rw [← hnc] at hin hcl
  have HIN := Hd.mk hin
  clear hin
  have hwl : IntKind.i64.wrap ((nc : Int) - 1) = (nc : Int) - 1 := IntWalk.i64_in _ (by omega)
  go_enter Try.func76, Try.ntmps76
  go_wp2_with fail
  refine (impl_ranX _ _ A c bs fn arg fu L HB.out HV.out).mono ?_
  rw [HR.out]
  rintro e w1 ⟨gm, ⟨A1, c1, A2, c2, A3, c3, A4, c4, A5, c5, bm, ps⟩, S0, rfl, hps, M, HP⟩
  have i1 := M.blk
  have rT := M.tr
  have rO := M.ow
  have rC := M.ca
  have rP := M.pa
  have rR := M.rc
  dsimp only at hps i1 rT rO rC rP rR
  have HPS := Hd.mk hps
  have HM1 := Hd.mk M
  clear hps M
  rw [← hnc] at i1
  clear hnc
  have HS1 := HP.sep
  have HE1 := HP.ext
  clear HP
  go_wp2_with fail
  refine (impl_in _ _ _ _ _ HIN.out).mono ?_
  rintro e wz ⟨rfl, hz⟩
  have hz2 := hz.symm
  subst hz2
  clear hz
  go_wp2
  go_ret2
  exact ⟨gm, _, S0, rfl, HPS.out, HM1.out.drop, Post.mk' inferInstance inferInstance⟩
set_option maxRecDepth 100000 in
set_option maxHeartbeats 8000000 in
theorem impl_DeferredBy1 (S0 : HP) (w : World) [H : SepI w S0] (bm b9 gm : Nat) (A : Option Addr) (n c : Nat) (fuel : Int) (R : Run) (A1 : Option Addr) (c1 : Nat) (A2 : Option Addr) (c2 : Nat) (A3 : Option Addr) (c3 : Nat) (A4 : Option Addr) (c4 : Nat) (A5 : Option Addr) (c5 : Nat) (bmm : Nat) (ps : List Pv) (call : Int)
    [i1 : HasBlk S0 gm (.cells (mcR A n c fuel R.m.made R.m.shared R.m.depth R.m.deepest (.slice A1 R.m.trace.length c1) (.slice A2 R.m.owners.length c2) (.slice A3 R.m.calls.length c3) (.slice A4 ps.length c4) (.slice A5 R.m.recs.length c5) bmm R.kind R.val) 77 (0, 0))] [rO : Rd S0 A2 (ints R.m.owners)] [rC : Rd S0 A3 (cCis R.m.calls)]
    [d1 : CellAt S0 bm 0 (.pointer (some ⟨gm, 0, none⟩))] [d2 : CellAt S0 b9 0 (.int .i64 call)] (i : Nat) (ev : Ev) (ow : Int) (ho : R.m.owners[i]? = some ow) :
    Calls Try.prog 77 (#[.int .i64 (i : Int), .agg #[.int .i64 ev.k, .int .i64 ev.f, .int .i64 ev.v]] ++ #[.pointer (some ⟨bm, 0, none⟩), .pointer (some ⟨b9, 0, none⟩)]) w fun e w' => e = .returned (.bool (ev.k == 2 && (ow == call))) ∧ Post w S0 w' := by
  obtain ⟨k, f, v⟩ := ev
  simp only
  have hil : i < R.m.owners.length := (List.getElem?_eq_some_iff.1 ho).1
  obtain ⟨bo, oo, rfl⟩ := rO.addr H (j := i) (by rw [ints_len]; exact hil)
  have e1 := rO.cell (ints_get ho)
  show Calls Try.prog 77 #[.int .i64 (i : Int), .agg #[.int .i64 k, .int .i64 f, .int .i64 v], .pointer (some ⟨bm, 0, none⟩), .pointer (some ⟨b9, 0, none⟩)] w _
  obtain ⟨no, hno⟩ : ∃ no, no = R.m.owners.length := ⟨_, rfl⟩
  obtain ⟨nc, hnc⟩ : ∃ nc, nc = R.m.calls.length := ⟨_, rfl⟩
  rw [← hno] at i1 hil
  rw [← hnc] at i1
  clear hno hnc ho
  obtain ⟨q, hq⟩ : ∃ q, (k == 2) = q := ⟨_, rfl⟩
  rw [hq]
  cases q
  · rw [Bool.false_and]
    go_enter Try.func77, Try.ntmps77
    go_wp2
    go_quiet (fail)
    go_wp2
    go_ret
    exact ⟨rfl, Post.mk' (Ent.sep (S := _) inferInstance inferInstance) inferInstance⟩
  · rw [Bool.true_and]
    obtain ⟨q2, hq2⟩ : ∃ q2, (ow == call) = q2 := ⟨_, rfl⟩
    rw [hq2]
    go_enter Try.func77, Try.ntmps77
    go_wp2
    go_quiet (fail)
    go_wp2
    go_ret
    exact ⟨rfl, Post.mk' (Ent.sep (S := _) inferInstance inferInstance) inferInstance⟩
set_option maxRecDepth 100000 in
set_option maxHeartbeats 8000000 in
theorem impl_RunBy1 (S0 : HP) (w : World) [H : SepI w S0] (bm b9 gm : Nat) (A : Option Addr) (n c : Nat) (fuel : Int) (R : Run) (A1 : Option Addr) (c1 : Nat) (A2 : Option Addr) (c2 : Nat) (A3 : Option Addr) (c3 : Nat) (A4 : Option Addr) (c4 : Nat) (A5 : Option Addr) (c5 : Nat) (bmm : Nat) (ps : List Pv) (call : Int)
    [i1 : HasBlk S0 gm (.cells (mcR A n c fuel R.m.made R.m.shared R.m.depth R.m.deepest (.slice A1 R.m.trace.length c1) (.slice A2 R.m.owners.length c2) (.slice A3 R.m.calls.length c3) (.slice A4 ps.length c4) (.slice A5 R.m.recs.length c5) bmm R.kind R.val) 77 (0, 0))] [rO : Rd S0 A2 (ints R.m.owners)] [rC : Rd S0 A3 (cCis R.m.calls)]
    [d1 : CellAt S0 bm 0 (.pointer (some ⟨gm, 0, none⟩))] [d2 : CellAt S0 b9 0 (.int .i64 call)] (i : Nat) (ev : Ev) (ow : Int) (ho : R.m.owners[i]? = some ow) (j : Nat) (x : Ci) (hx : R.m.calls[j]? = some x) (hj : ow = j) :
    Calls Try.prog 79 (#[.int .i64 (i : Int), .agg #[.int .i64 ev.k, .int .i64 ev.f, .int .i64 ev.v]] ++ #[.pointer (some ⟨bm, 0, none⟩), .pointer (some ⟨b9, 0, none⟩)]) w fun e w' => e = .returned (.bool (ev.k == 3 && (x.up == call))) ∧ Post w S0 w' := by
  obtain ⟨k, f, v⟩ := ev
  simp only
  have hil : i < R.m.owners.length := (List.getElem?_eq_some_iff.1 ho).1
  obtain ⟨bo, oo, rfl⟩ := rO.addr H (j := i) (by rw [ints_len]; exact hil)
  have e1 := rO.cell (ints_get ho)
  subst hj
  have hjl : j < R.m.calls.length := (List.getElem?_eq_some_iff.1 hx).1
  obtain ⟨bc, oc, rfl⟩ := rC.addr H (j := j) (by rw [cCis_len]; omega)
  have e2 := rC.cell (cCis_at hx).2.1
  show Calls Try.prog 79 #[.int .i64 (i : Int), .agg #[.int .i64 k, .int .i64 f, .int .i64 v], .pointer (some ⟨bm, 0, none⟩), .pointer (some ⟨b9, 0, none⟩)] w _
  obtain ⟨no, hno⟩ : ∃ no, no = R.m.owners.length := ⟨_, rfl⟩
  obtain ⟨nc, hnc⟩ : ∃ nc, nc = R.m.calls.length := ⟨_, rfl⟩
  rw [← hno] at i1 hil
  rw [← hnc] at i1 hjl
  clear hno hnc ho hx
  obtain ⟨q, hq⟩ : ∃ q, (k == 3) = q := ⟨_, rfl⟩
  rw [hq]
  cases q
  · rw [Bool.false_and]
    go_enter Try.func79, Try.ntmps79
    go_wp2
    go_quiet (fail)
    go_wp2
    go_ret
    exact ⟨rfl, Post.mk' (Ent.sep (S := _) inferInstance inferInstance) inferInstance⟩
  · rw [Bool.true_and]
    obtain ⟨q2, hq2⟩ : ∃ q2, (x.up == call) = q2 := ⟨_, rfl⟩
    rw [hq2]
    go_enter Try.func79, Try.ntmps79
    go_wp2
    go_quiet (fail)
    go_wp2
    go_ret
    exact ⟨rfl, Post.mk' (Ent.sep (S := _) inferInstance inferInstance) inferInstance⟩
set_option maxRecDepth 100000 in
set_option maxHeartbeats 8000000 in
theorem impl_RunBy0 (S0 : HP) (w : World) [H : SepI w S0] (bm b9 : Nat) (i : Nat) (ev : Ev) (hk : ev.k ≠ 3) :
    Calls Try.prog 79 (#[.int .i64 (i : Int), .agg #[.int .i64 ev.k, .int .i64 ev.f, .int .i64 ev.v]] ++ #[.pointer (some ⟨bm, 0, none⟩), .pointer (some ⟨b9, 0, none⟩)]) w fun e w' => e = .returned (.bool false) ∧ Post w S0 w' := by
  obtain ⟨k, f, v⟩ := ev
  have hk3 : (k == 3) = false := by simpa using hk
  clear hk
  show Calls Try.prog 79 #[.int .i64 (i : Int), .agg #[.int .i64 k, .int .i64 f, .int .i64 v], .pointer (some ⟨bm, 0, none⟩), .pointer (some ⟨b9, 0, none⟩)] w _
  go_enter Try.func79, Try.ntmps79
  go_wp2
  go_quiet (fail)
  go_wp2
  go_ret
  exact ⟨rfl, Post.mk' (Ent.sep (S := _) inferInstance inferInstance) inferInstance⟩
set_option maxRecDepth 100000 in
set_option maxHeartbeats 8000000 in
theorem impl_DeferredByN (S : HP) (w : World) [H : SepI w S] (A : Option Addr) (c : Nat) (bs : List Bd) [r : Rd S A (cBds bs)] [B : Bodies S bs] (fn arg fuel call : Int) (hv : askB (bs.map (·.l)) fn arg fuel = false) :
    Calls Try.prog 51 #[.agg #[.slice A bs.length c], .int .i64 fn, .int .i64 arg, .int .i64 fuel, .int .i64 call] w (A2Ok S [] false w) := by
  have hbn := B.n
  have HV := Hd.mk hv
  clear hv
  have hnot : ∀ (x : Bool) (w : World), (Op.unary .not (.bool x)).run Try.prog w = .ok (.bool (!x)) w := fun _ _ => rfl
  go_enter Try.func51, Try.ntmps51
  go_wp2_with fail
  refine (impl_ranCallN _ _ A c bs fn arg fuel call HV.out).mono ?_
  rintro e w1 ⟨rfl, HP⟩
  have HS1 := HP.sep
  have HE1 := HP.ext
  clear HP
  go_wp2
  go_ret2
  exact A2Ok.nil (v := .slice none 0 0) (Post.mk' (Ent.sep (S := _) inferInstance (Row.nil0 (inferInstance : SepI (w1.alloc (.cells #[.pointer none] 69 (0, 0))) _) 98 2)) inferInstance)
set_option maxRecDepth 100000 in
set_option maxHeartbeats 8000000 in
theorem impl_DeferredByO (S : HP) (w : World) [H : SepI w S] (A : Option Addr) (c : Nat) (bs : List Bd) [r : Rd S A (cBds bs)] [B : Bodies S bs] (fn arg : Int) (fu : Nat) (L : List (List St)) (hbs : bs.map (·.l) = L) (hv : askB L fn arg fu = true) (call : Int) (hin : inB call 0 (((ranM L fn arg fu).m.calls.length : Int) - 1) = false) :
    Calls Try.prog 51 #[.agg #[.slice A bs.length c], .int .i64 fn, .int .i64 arg, .int .i64 fu, .int .i64 call] w (A2Ok S [] false w) := by
  have hbn := B.n
  have HV := Hd.mk hv
  have HB := Hd.mk hbs
  have HIN := Hd.mk hin
  clear hv hbs hin
  have hnot : ∀ (x : Bool) (w : World), (Op.unary .not (.bool x)).run Try.prog w = .ok (.bool (!x)) w := fun _ _ => rfl
  go_enter Try.func51, Try.ntmps51
  go_wp2_with fail
  refine (impl_ranCallV _ _ A c bs fn arg fu L HB.out HV.out call _ HIN.out).mono ?_
  rintro e w1 ⟨gm, x, S0, rfl, hps, M, HP⟩
  clear hps
  have HM1 := Hd.mk M
  clear M
  have HS1 := HP.sep
  have HE1 := HP.ext
  clear HP
  go_wp2
  go_ret2
  exact A2Ok.nil (v := .slice none 0 0) (Post.mk' (Ent.sep (S := _) inferInstance (HM1.out.out (Ent.sep (S := _) (T := Row 98 2 (.slice none 0 0) 0 [] * S0) inferInstance (Row.nil0 (inferInstance : SepI (w1.alloc (.cells #[.pointer (some ⟨gm, 0, none⟩)] 69 (0, 0))) _) 98 2)))) inferInstance)
set_option maxRecDepth 100000 in
set_option maxHeartbeats 8000000 in
theorem impl_DeferredByV (S : HP) (w : World) [H : SepI w S] (A : Option Addr) (c : Nat) (bs : List Bd) [r : Rd S A (cBds bs)] [B : Bodies S bs] (fn arg : Int) (fu : Nat) (L : List (List St)) (hbs : bs.map (·.l) = L) (hv : askB L fn arg fu = true) (call : Int) (hin : inB call 0 (((ranM L fn arg fu).m.calls.length : Int) - 1) = true) :
    Calls Try.prog 51 #[.agg #[.slice A bs.length c], .int .i64 fn, .int .i64 arg, .int .i64 fu, .int .i64 call] w (A2Ok S (defA (ranM L fn arg fu).m.trace (ranM L fn arg fu).m.owners call) true w) := by
  have hbn := B.n
  have HV := Hd.mk hv
  have HB := Hd.mk hbs
  have HF := Hd.mk (factsB hv)
  clear hv hbs
  obtain ⟨R, hR⟩ : ∃ R, ranM L fn arg fu = R := ⟨_, rfl⟩
  have HR := Hd.mk hR
  rw [hR] at HF hin ⊢
  clear hR
  have HIN : Hd (inB call 0 (((ranM L fn arg fu).m.calls.length : Int) - 1) = true) := ⟨by rw [HR.out]; exact hin⟩
  clear hin
  have HEN : Hd (Enters 77) := ⟨fun args w => by go_simp⟩
  obtain ⟨ans, hans⟩ : ∃ ans, defA R.m.trace R.m.owners call = ans := ⟨_, rfl⟩
  rw [hans]
  have HANS : Hd (pairN (fun i e => e.k == 2 && (R.m.owners.getD i 0 == call)) R.m.trace R.m.trace.length = ans) := ⟨by
    rw [← hans]
    refine pairN_all (l := R.m.trace.zip R.m.owners) (by rw [List.length_zip]; have := HF.out.len; omega) (fun i e y h1 h2 => ?_)
    rw [List.getElem?_zip_eq_some] at h2
    obtain ⟨y1, y2⟩ := y
    obtain ⟨g1, g2⟩ := h2
    rw [h1] at g1
    injection g1 with g1
    simp only at g1 g2
    subst g1
    have hgd : R.m.owners.getD i 0 = y2 := by rw [List.getD_eq_getElem?_getD, g2]; rfl
    unfold defF
    simp only [hgd]
    by_cases hk : e.k = 2 ∧ y2 = call
    · rw [if_pos hk, if_pos (by simpa using hk)]
    · rw [if_neg hk, if_neg (by simpa using hk)]⟩
  have HPP : Hd (∀ (S0 : HP) (bm b9 gm : Nat) (x : MVs), MRd S0 S gm A bs.length c fu R x → CellAt S0 bm 0 (.pointer (some ⟨gm, 0, none⟩)) → CellAt S0 b9 0 (.int .i64 call) → PairP S0 R 77 #[.pointer (some ⟨bm, 0, none⟩), .pointer (some ⟨b9, 0, none⟩)] (fun i e => e.k == 2 && (R.m.owners.getD i 0 == call))) := ⟨fun S0 bm b9 gm x M d1 d2 i ev h1 X W HW => by
    have i1 := M.blk
    have rO := M.ow
    have rC := M.ca
    obtain ⟨ow, ho⟩ := get_ex (xs := R.m.owners) (k := i) (by have := HF.out.len; have := (List.getElem?_eq_some_iff.1 h1).1; omega)
    have hgd : R.m.owners.getD i 0 = ow := by rw [List.getD_eq_getElem?_getD, ho]; rfl
    refine (impl_DeferredBy1 (X * S0) W bm b9 gm A bs.length c fu R x.A1 x.c1 x.A2 x.c2 x.A3 x.c3 x.A4 x.c4 x.A5 x.c5 x.bm x.ps call i ev ow ho).mono ?_
    rintro e w' ⟨rfl, h⟩
    refine ⟨?_, h⟩
    simp only [hgd]⟩
  clear hans
  obtain ⟨be, hbe⟩ : ∃ be, be = w.heap.size := ⟨_, rfl⟩
  have HBE := Hd.mk hbe
  clear hbe
  have hnot : ∀ (x : Bool) (w : World), (Op.unary .not (.bool x)).run Try.prog w = .ok (.bool (!x)) w := fun _ _ => rfl
  go_enter Try.func51, Try.ntmps51
  go_wp2_with fail
  refine (impl_ranCallV _ _ A c bs fn arg fu L HB.out HV.out call _ HIN.out).mono ?_
  rw [HR.out]
  rintro e w1 ⟨gm, x, S0, rfl, hps, M, HP⟩
  clear hps
  have HM1 := Hd.mk M
  clear M
  have HS1 := HP.sep
  have HE1 := HP.ext
  clear HP
  go_wp2_with fail
  have HS2 : SepI (w1.alloc (.cells #[.pointer (some ⟨gm, 0, none⟩)] 69 (0, 0))) (pts w1.heap.size (.cells #[.pointer (some ⟨gm, 0, none⟩)] 69 (0, 0)) * S0) := inferInstance
  have HM2 : MRd (pts w1.heap.size (.cells #[.pointer (some ⟨gm, 0, none⟩)] 69 (0, 0)) * S0) _ gm A bs.length c fu R x := HM1.out.add
  have hd2 : CellAt (pts w1.heap.size (.cells #[.pointer (some ⟨gm, 0, none⟩)] 69 (0, 0)) * S0) (w.heap.size + 1) 0 (.int .i64 call) := CellAt.from (fun w h => HM2.out0 h) (by first | exact CellAt.pts0 | (have : CellAt (pts (w.heap.size + 1) (.cells #[.int .i64 call] 3 (0, 0)) * _) (w.heap.size + 1) 0 (.int .i64 call) := CellAt.pts0; infer_instance))
  refine (@impl_pairs _ _ _ inferInstance gm A bs.length c fu R x HM2 HF.out _ _ (fun i e => e.k == 2 && (R.m.owners.getD i 0 == call)) HEN.out (HPP.out _ w1.heap.size (w.heap.size + 1) gm x HM2.drop.drop CellAt.pts0 hd2)).mono ?_
  rw [HANS.out]
  rintro e w2 ⟨A2, c2, rfl, HP⟩
  have HS2 := HP.sep
  have HE2 := HP.ext
  clear HP
  go_wp2
  go_ret2
  exact A2Ok.of (v := .slice A2 ans.length c2) (Post.mk' (Ent.sep (S := _) inferInstance (HM2.out HS2)) inferInstance)
set_option maxRecDepth 100000 in
set_option maxHeartbeats 8000000 in
theorem impl_RunByN (S : HP) (w : World) [H : SepI w S] (A : Option Addr) (c : Nat) (bs : List Bd) [r : Rd S A (cBds bs)] [B : Bodies S bs] (fn arg fuel call : Int) (hv : askB (bs.map (·.l)) fn arg fuel = false) :
    Calls Try.prog 53 #[.agg #[.slice A bs.length c], .int .i64 fn, .int .i64 arg, .int .i64 fuel, .int .i64 call] w (A2Ok S [] false w) := by
  have hbn := B.n
  have HV := Hd.mk hv
  clear hv
  have hnot : ∀ (x : Bool) (w : World), (Op.unary .not (.bool x)).run Try.prog w = .ok (.bool (!x)) w := fun _ _ => rfl
  go_enter Try.func53, Try.ntmps53
  go_wp2_with fail
  refine (impl_ranCallN _ _ A c bs fn arg fuel call HV.out).mono ?_
  rintro e w1 ⟨rfl, HP⟩
  have HS1 := HP.sep
  have HE1 := HP.ext
  clear HP
  go_wp2
  go_ret2
  exact A2Ok.nil (v := .slice none 0 0) (Post.mk' (Ent.sep (S := _) inferInstance (Row.nil0 (inferInstance : SepI (w1.alloc (.cells #[.pointer none] 69 (0, 0))) _) 98 2)) inferInstance)
set_option maxRecDepth 100000 in
set_option maxHeartbeats 8000000 in
theorem impl_RunByO (S : HP) (w : World) [H : SepI w S] (A : Option Addr) (c : Nat) (bs : List Bd) [r : Rd S A (cBds bs)] [B : Bodies S bs] (fn arg : Int) (fu : Nat) (L : List (List St)) (hbs : bs.map (·.l) = L) (hv : askB L fn arg fu = true) (call : Int) (hin : inB call 0 (((ranM L fn arg fu).m.calls.length : Int) - 1) = false) :
    Calls Try.prog 53 #[.agg #[.slice A bs.length c], .int .i64 fn, .int .i64 arg, .int .i64 fu, .int .i64 call] w (A2Ok S [] false w) := by
  have hbn := B.n
  have HV := Hd.mk hv
  have HB := Hd.mk hbs
  have HIN := Hd.mk hin
  clear hv hbs hin
  have hnot : ∀ (x : Bool) (w : World), (Op.unary .not (.bool x)).run Try.prog w = .ok (.bool (!x)) w := fun _ _ => rfl
  go_enter Try.func53, Try.ntmps53
  go_wp2_with fail
  refine (impl_ranCallV _ _ A c bs fn arg fu L HB.out HV.out call _ HIN.out).mono ?_
  rintro e w1 ⟨gm, x, S0, rfl, hps, M, HP⟩
  clear hps
  have HM1 := Hd.mk M
  clear M
  have HS1 := HP.sep
  have HE1 := HP.ext
  clear HP
  go_wp2
  go_ret2
  exact A2Ok.nil (v := .slice none 0 0) (Post.mk' (Ent.sep (S := _) inferInstance (HM1.out.out (Ent.sep (S := _) (T := Row 98 2 (.slice none 0 0) 0 [] * S0) inferInstance (Row.nil0 (inferInstance : SepI (w1.alloc (.cells #[.pointer (some ⟨gm, 0, none⟩)] 69 (0, 0))) _) 98 2)))) inferInstance)
set_option maxRecDepth 100000 in
set_option maxHeartbeats 8000000 in
theorem impl_RunByV (S : HP) (w : World) [H : SepI w S] (A : Option Addr) (c : Nat) (bs : List Bd) [r : Rd S A (cBds bs)] [B : Bodies S bs] (fn arg : Int) (fu : Nat) (L : List (List St)) (hbs : bs.map (·.l) = L) (hv : askB L fn arg fu = true) (call : Int) (hin : inB call 0 (((ranM L fn arg fu).m.calls.length : Int) - 1) = true) :
    Calls Try.prog 53 #[.agg #[.slice A bs.length c], .int .i64 fn, .int .i64 arg, .int .i64 fu, .int .i64 call] w (A2Ok S (runA (ranM L fn arg fu).m.trace (ranM L fn arg fu).m.owners ((ranM L fn arg fu).m.calls.map c5) call) true w) := by
  have hbn := B.n
  have HV := Hd.mk hv
  have HB := Hd.mk hbs
  have HF := Hd.mk (factsB hv)
  clear hv hbs
  obtain ⟨R, hR⟩ : ∃ R, ranM L fn arg fu = R := ⟨_, rfl⟩
  have HR := Hd.mk hR
  rw [hR] at HF hin ⊢
  clear hR
  have HIN : Hd (inB call 0 (((ranM L fn arg fu).m.calls.length : Int) - 1) = true) := ⟨by rw [HR.out]; exact hin⟩
  clear hin
  have HEN : Hd (Enters 79) := ⟨fun args w => by go_simp⟩
  obtain ⟨ans, hans⟩ : ∃ ans, runA R.m.trace R.m.owners (R.m.calls.map c5) call = ans := ⟨_, rfl⟩
  rw [hans]
  have HANS : Hd (pairN (fun i e => e.k == 3 && (upAt (R.m.calls.map c5) (R.m.owners.getD i 0) == call)) R.m.trace R.m.trace.length = ans) := ⟨by
    rw [← hans]
    refine pairN_all (l := R.m.trace.zip R.m.owners) (by rw [List.length_zip]; have := HF.out.len; omega) (fun i e y h1 h2 => ?_)
    rw [List.getElem?_zip_eq_some] at h2
    obtain ⟨y1, y2⟩ := y
    obtain ⟨g1, g2⟩ := h2
    rw [h1] at g1
    injection g1 with g1
    simp only at g1 g2
    subst g1
    have hgd : R.m.owners.getD i 0 = y2 := by rw [List.getD_eq_getElem?_getD, g2]; rfl
    unfold runF
    simp only [hgd]
    by_cases hk : e.k = 3 ∧ upAt (R.m.calls.map c5) y2 = call
    · rw [if_pos hk, if_pos (by simpa using hk)]
    · rw [if_neg hk, if_neg (by simpa using hk)]⟩
  have HPP : Hd (∀ (S0 : HP) (bm b9 gm : Nat) (x : MVs), MRd S0 S gm A bs.length c fu R x → CellAt S0 bm 0 (.pointer (some ⟨gm, 0, none⟩)) → CellAt S0 b9 0 (.int .i64 call) → PairP S0 R 79 #[.pointer (some ⟨bm, 0, none⟩), .pointer (some ⟨b9, 0, none⟩)] (fun i e => e.k == 3 && (upAt (R.m.calls.map c5) (R.m.owners.getD i 0) == call))) := ⟨fun S0 bm b9 gm x M d1 d2 i ev h1 X W HW => by
    have i1 := M.blk
    have rO := M.ow
    have rC := M.ca
    obtain ⟨ow, ho⟩ := get_ex (xs := R.m.owners) (k := i) (by have := HF.out.len; have := (List.getElem?_eq_some_iff.1 h1).1; omega)
    have hgd : R.m.owners.getD i 0 = ow := by rw [List.getD_eq_getElem?_getD, ho]; rfl
    by_cases hk : ev.k = 3
    · obtain ⟨now, hr3⟩ := HF.out.r3
      obtain ⟨j, hj, hjl⟩ := own3 (t := R.m.trace) (i := R.m.trace.length) (Nat.le_refl _) (by rw [List.take_length]; exact hr3) i ev ow (List.getElem?_eq_some_iff.1 h1).1 h1 ho (.inr hk)
      obtain ⟨x5, hx5⟩ := get_ex hjl
      rw [List.getElem?_map] at hx5
      obtain ⟨xc, hxc, hxe⟩ := Option.map_eq_some_iff.1 hx5
      refine (impl_RunBy1 (X * S0) W bm b9 gm A bs.length c fu R x.A1 x.c1 x.A2 x.c2 x.A3 x.c3 x.A4 x.c4 x.A5 x.c5 x.bm x.ps call i ev ow ho j xc hxc hj).mono ?_
      rintro e w' ⟨rfl, h⟩
      refine ⟨?_, h⟩
      simp only [hgd]
      rw [hj, upAt_get (c := C5.mk xc.fn xc.up xc.df xc.en xc.va) (by rw [List.getElem?_map, hxc]; rfl)]
    · refine (impl_RunBy0 (X * S0) W bm b9 i ev hk).mono ?_
      rintro e w' ⟨rfl, h⟩
      refine ⟨?_, h⟩
      have : (ev.k == 3) = false := by simpa using hk
      simp only [this, Bool.false_and]⟩
  clear hans
  obtain ⟨be, hbe⟩ : ∃ be, be = w.heap.size := ⟨_, rfl⟩
  have HBE := Hd.mk hbe
  clear hbe
  have hnot : ∀ (x : Bool) (w : World), (Op.unary .not (.bool x)).run Try.prog w = .ok (.bool (!x)) w := fun _ _ => rfl
  go_enter Try.func53, Try.ntmps53
  go_wp2_with fail
  refine (impl_ranCallV _ _ A c bs fn arg fu L HB.out HV.out call _ HIN.out).mono ?_
  rw [HR.out]
  rintro e w1 ⟨gm, x, S0, rfl, hps, M, HP⟩
  clear hps
  have HM1 := Hd.mk M
  clear M
  have HS1 := HP.sep
  have HE1 := HP.ext
  clear HP
  go_wp2_with fail
  have HS2 : SepI (w1.alloc (.cells #[.pointer (some ⟨gm, 0, none⟩)] 69 (0, 0))) (pts w1.heap.size (.cells #[.pointer (some ⟨gm, 0, none⟩)] 69 (0, 0)) * S0) := inferInstance
  have HM2 : MRd (pts w1.heap.size (.cells #[.pointer (some ⟨gm, 0, none⟩)] 69 (0, 0)) * S0) _ gm A bs.length c fu R x := HM1.out.add
  have hd2 : CellAt (pts w1.heap.size (.cells #[.pointer (some ⟨gm, 0, none⟩)] 69 (0, 0)) * S0) (w.heap.size + 1) 0 (.int .i64 call) := CellAt.from (fun w h => HM2.out0 h) (by first | exact CellAt.pts0 | (have : CellAt (pts (w.heap.size + 1) (.cells #[.int .i64 call] 3 (0, 0)) * _) (w.heap.size + 1) 0 (.int .i64 call) := CellAt.pts0; infer_instance))
  refine (@impl_pairs _ _ _ inferInstance gm A bs.length c fu R x HM2 HF.out _ _ (fun i e => e.k == 3 && (upAt (R.m.calls.map c5) (R.m.owners.getD i 0) == call)) HEN.out (HPP.out _ w1.heap.size (w.heap.size + 1) gm x HM2.drop.drop CellAt.pts0 hd2)).mono ?_
  rw [HANS.out]
  rintro e w2 ⟨A2, c2, rfl, HP⟩
  have HS2 := HP.sep
  have HE2 := HP.ext
  clear HP
  go_wp2
  go_ret2
  exact A2Ok.of (v := .slice A2 ans.length c2) (Post.mk' (Ent.sep (S := _) inferInstance (HM2.out HS2)) inferInstance)
set_option maxRecDepth 100000 in
set_option maxHeartbeats 8000000 in
theorem spec_DeferredByN (S : HP) (w : World) [H : SepI w S] (A : Option Addr) (c : Nat) (bs : List Bd) [r : Rd S A (cBds bs)] [B : Bodies S bs] (fn arg fuel call : Int) (hv : askB (bs.map (·.l)) fn arg fuel = false) :
    Calls Try.prog 50 #[.agg #[.slice A bs.length c], .int .i64 fn, .int .i64 arg, .int .i64 fuel, .int .i64 call] w (A2Ok S [] false w) := by
  have hbn := B.n
  have HV := Hd.mk hv
  clear hv
  have hnot : ∀ (x : Bool) (w : World), (Op.unary .not (.bool x)).run Try.prog w = .ok (.bool (!x)) w := fun _ _ => rfl
  go_enter Try.func50, Try.ntmps50
  go_wp2_with fail
  refine (spec_l3CallN _ _ A c bs fn arg fuel call HV.out).mono ?_
  rintro e w1 ⟨rfl, HP⟩
  have HS1 := HP.sep
  have HE1 := HP.ext
  clear HP
  go_wp2
  go_ret2
  exact A2Ok.nil (v := .slice (some ⟨w1.heap.size, 0, none⟩) 0 0) (Post.mk' (Ent.sep (S := _) inferInstance (Row.lit0 (size := 2) (SepI.i_alloc w1 (.cells #[] 98 (0, 0)) _ _))) inferInstance)
set_option maxRecDepth 100000 in
set_option maxHeartbeats 8000000 in
theorem spec_DeferredByO (S : HP) (w : World) [H : SepI w S] (A : Option Addr) (c : Nat) (bs : List Bd) [r : Rd S A (cBds bs)] [B : Bodies S bs] (hnn : NoneNil bs) (fn arg : Int) (fu : Nat) (L : List (List St)) (hbs : bs.map (·.l) = L) (hv : askB L fn arg fu = true) (call : Int) (hin : inB call 0 (((ranM L fn arg fu).m.calls.length : Int) - 1) = false) :
    Calls Try.prog 50 #[.agg #[.slice A bs.length c], .int .i64 fn, .int .i64 arg, .int .i64 fu, .int .i64 call] w (A2Ok S [] false w) := by
  have hbn := B.n
  have HV := Hd.mk hv
  have HB := Hd.mk hbs
  have HIN := Hd.mk hin
  have HNN := Hd.mk hnn
  clear hv hbs hin hnn
  have hnot : ∀ (x : Bool) (w : World), (Op.unary .not (.bool x)).run Try.prog w = .ok (.bool (!x)) w := fun _ _ => rfl
  go_enter Try.func50, Try.ntmps50
  go_wp2_with fail
  refine (spec_l3CallV _ _ A c bs HNN.out fn arg fu L HB.out HV.out call _ HIN.out).mono ?_
  rintro e w1 ⟨rfl, HP⟩
  have HS1 := HP.sep
  have HE1 := HP.ext
  clear HP
  go_wp2
  go_ret2
  exact A2Ok.nil (v := .slice (some ⟨w1.heap.size, 0, none⟩) 0 0) (Post.mk' (Ent.sep (S := _) inferInstance (Row.lit0 (size := 2) (SepI.i_alloc w1 (.cells #[] 98 (0, 0)) _ _))) inferInstance)
set_option maxRecDepth 100000 in
set_option maxHeartbeats 8000000 in
theorem spec_DeferredByV (S : HP) (w : World) [H : SepI w S] (A : Option Addr) (c : Nat) (bs : List Bd) [r : Rd S A (cBds bs)] [B : Bodies S bs] (hnn : NoneNil bs) (fn arg : Int) (fu : Nat) (L : List (List St)) (hbs : bs.map (·.l) = L) (hv : askB L fn arg fu = true) (call : Int) (hin : inB call 0 (((ranM L fn arg fu).m.calls.length : Int) - 1) = true) :
    Calls Try.prog 50 #[.agg #[.slice A bs.length c], .int .i64 fn, .int .i64 arg, .int .i64 fu, .int .i64 call] w (A2Ok S (defA (ranM L fn arg fu).m.trace (ranM L fn arg fu).m.owners call) true w) := by
  have HNN := Hd.mk hnn
  have HIN := Hd.mk hin
  clear hnn hin
  have hbn := B.n
  have HV := Hd.mk hv
  have HB := Hd.mk hbs
  have HF := Hd.mk (factsB hv)
  clear hv hbs
  obtain ⟨R, hR⟩ : ∃ R, ranM L fn arg fu = R := ⟨_, rfl⟩
  have HR := Hd.mk hR
  rw [hR] at HF ⊢
  clear hR
  obtain ⟨C, hC⟩ : ∃ C, R.m.calls.map c5 = C := ⟨_, rfl⟩
  skip
  have HC := Hd.mk hC
  have HCL : Hd (C.length ≤ 1000) := ⟨by rw [← hC, List.length_map]; have h1 := HF.out.bl.c; have h2 := HF.out.ts; omega⟩
  obtain ⟨ans, hans⟩ : ∃ ans, defA R.m.trace R.m.owners call = ans := ⟨_, rfl⟩
  rw [hans]
  have HANS := Hd.mk hans
  clear hC hans
  have hnot : ∀ (x : Bool) (w : World), (Op.unary .not (.bool x)).run Try.prog w = .ok (.bool (!x)) w := fun _ _ => rfl
  go_enter Try.func50, Try.ntmps50
  go_wp2_with fail
  refine (spec_l3CallV _ _ A c bs HNN.out fn arg fu L HB.out HV.out call _ HIN.out).mono ?_
  rintro e w1 ⟨rfl, HP⟩
  have HS1 := HP.sep
  have HE1 := HP.ext
  clear HP
  go_wp2_with fail
  refine (spec_runX _ _ A c bs HNN.out fn arg fu L HB.out HV.out).mono ?_
  rw [HR.out]
  rintro e w2 ⟨A2, c2, rfl, HP⟩
  have HS2 := HP.sep
  have HE2 := HP.ext
  clear HP
  try simp only []
  rename_i hK
  refine hK _ _ ?_
  clear hK
  refine ev_val rfl _ rfl ?_
  obtain ⟨now, hr3⟩ := HF.out.r3
  rw [HC.out] at hr3
  have HR3 := Hd.mk hr3
  clear hr3
  go_wp2_with fail
  refine (@spec_l3Deferred _ w2 HS2 A2 c2 R.m.trace inferInstance HF.out.ts _ _ now HR3.out HF.out.len HCL.out call).mono ?_
  rw [HANS.out]
  rintro e w3 ⟨A3, c3, rfl, HP⟩
  have HS3 := HP.sep
  have HE3 := HP.ext
  clear HP
  go_wp2
  go_ret2
  exact A2Ok.of (v := .slice A3 ans.length c3) (Post.mk' (Ent.sep (S := _) inferInstance inferInstance) inferInstance)
set_option maxRecDepth 100000 in
set_option maxHeartbeats 8000000 in
theorem spec_RunByN (S : HP) (w : World) [H : SepI w S] (A : Option Addr) (c : Nat) (bs : List Bd) [r : Rd S A (cBds bs)] [B : Bodies S bs] (fn arg fuel call : Int) (hv : askB (bs.map (·.l)) fn arg fuel = false) :
    Calls Try.prog 52 #[.agg #[.slice A bs.length c], .int .i64 fn, .int .i64 arg, .int .i64 fuel, .int .i64 call] w (A2Ok S [] false w) := by
  have hbn := B.n
  have HV := Hd.mk hv
  clear hv
  have hnot : ∀ (x : Bool) (w : World), (Op.unary .not (.bool x)).run Try.prog w = .ok (.bool (!x)) w := fun _ _ => rfl
  go_enter Try.func52, Try.ntmps52
  go_wp2_with fail
  refine (spec_l3CallN _ _ A c bs fn arg fuel call HV.out).mono ?_
  rintro e w1 ⟨rfl, HP⟩
  have HS1 := HP.sep
  have HE1 := HP.ext
  clear HP
  go_wp2
  go_ret2
  exact A2Ok.nil (v := .slice (some ⟨w1.heap.size, 0, none⟩) 0 0) (Post.mk' (Ent.sep (S := _) inferInstance (Row.lit0 (size := 2) (SepI.i_alloc w1 (.cells #[] 98 (0, 0)) _ _))) inferInstance)
set_option maxRecDepth 100000 in
set_option maxHeartbeats 8000000 in
theorem spec_RunByO (S : HP) (w : World) [H : SepI w S] (A : Option Addr) (c : Nat) (bs : List Bd) [r : Rd S A (cBds bs)] [B : Bodies S bs] (hnn : NoneNil bs) (fn arg : Int) (fu : Nat) (L : List (List St)) (hbs : bs.map (·.l) = L) (hv : askB L fn arg fu = true) (call : Int) (hin : inB call 0 (((ranM L fn arg fu).m.calls.length : Int) - 1) = false) :
    Calls Try.prog 52 #[.agg #[.slice A bs.length c], .int .i64 fn, .int .i64 arg, .int .i64 fu, .int .i64 call] w (A2Ok S [] false w) := by
  have hbn := B.n
  have HV := Hd.mk hv
  have HB := Hd.mk hbs
  have HIN := Hd.mk hin
  have HNN := Hd.mk hnn
  clear hv hbs hin hnn
  have hnot : ∀ (x : Bool) (w : World), (Op.unary .not (.bool x)).run Try.prog w = .ok (.bool (!x)) w := fun _ _ => rfl
  go_enter Try.func52, Try.ntmps52
  go_wp2_with fail
  refine (spec_l3CallV _ _ A c bs HNN.out fn arg fu L HB.out HV.out call _ HIN.out).mono ?_
  rintro e w1 ⟨rfl, HP⟩
  have HS1 := HP.sep
  have HE1 := HP.ext
  clear HP
  go_wp2
  go_ret2
  exact A2Ok.nil (v := .slice (some ⟨w1.heap.size, 0, none⟩) 0 0) (Post.mk' (Ent.sep (S := _) inferInstance (Row.lit0 (size := 2) (SepI.i_alloc w1 (.cells #[] 98 (0, 0)) _ _))) inferInstance)
set_option maxRecDepth 100000 in
set_option maxHeartbeats 8000000 in
theorem spec_RunByV (S : HP) (w : World) [H : SepI w S] (A : Option Addr) (c : Nat) (bs : List Bd) [r : Rd S A (cBds bs)] [B : Bodies S bs] (hnn : NoneNil bs) (fn arg : Int) (fu : Nat) (L : List (List St)) (hbs : bs.map (·.l) = L) (hv : askB L fn arg fu = true) (call : Int) (hin : inB call 0 (((ranM L fn arg fu).m.calls.length : Int) - 1) = true) :
    Calls Try.prog 52 #[.agg #[.slice A bs.length c], .int .i64 fn, .int .i64 arg, .int .i64 fu, .int .i64 call] w (A2Ok S (runA (ranM L fn arg fu).m.trace (ranM L fn arg fu).m.owners ((ranM L fn arg fu).m.calls.map c5) call) true w) := by
  have HNN := Hd.mk hnn
  have HIN := Hd.mk hin
  clear hnn hin
  have hbn := B.n
  have HV := Hd.mk hv
  have HB := Hd.mk hbs
  have HF := Hd.mk (factsB hv)
  clear hv hbs
  obtain ⟨R, hR⟩ : ∃ R, ranM L fn arg fu = R := ⟨_, rfl⟩
  have HR := Hd.mk hR
  rw [hR] at HF ⊢
  clear hR
  obtain ⟨C, hC⟩ : ∃ C, R.m.calls.map c5 = C := ⟨_, rfl⟩
  rw [hC]
  have HC := Hd.mk hC
  have HCL : Hd (C.length ≤ 1000) := ⟨by rw [← hC, List.length_map]; have h1 := HF.out.bl.c; have h2 := HF.out.ts; omega⟩
  obtain ⟨ans, hans⟩ : ∃ ans, runA R.m.trace R.m.owners C call = ans := ⟨_, rfl⟩
  rw [hans]
  have HANS := Hd.mk hans
  clear hC hans
  have hnot : ∀ (x : Bool) (w : World), (Op.unary .not (.bool x)).run Try.prog w = .ok (.bool (!x)) w := fun _ _ => rfl
  go_enter Try.func52, Try.ntmps52
  go_wp2_with fail
  refine (spec_l3CallV _ _ A c bs HNN.out fn arg fu L HB.out HV.out call _ HIN.out).mono ?_
  rintro e w1 ⟨rfl, HP⟩
  have HS1 := HP.sep
  have HE1 := HP.ext
  clear HP
  go_wp2_with fail
  refine (spec_runX _ _ A c bs HNN.out fn arg fu L HB.out HV.out).mono ?_
  rw [HR.out]
  rintro e w2 ⟨A2, c2, rfl, HP⟩
  have HS2 := HP.sep
  have HE2 := HP.ext
  clear HP
  try simp only []
  rename_i hK
  refine hK _ _ ?_
  clear hK
  refine ev_val rfl _ rfl ?_
  obtain ⟨now, hr3⟩ := HF.out.r3
  rw [HC.out] at hr3
  have HR3 := Hd.mk hr3
  clear hr3
  go_wp2_with fail
  refine (@spec_l3RunBy _ w2 HS2 A2 c2 R.m.trace inferInstance HF.out.ts _ _ now HR3.out HF.out.len HCL.out call (fun i e o h1 h2 hk => own3 (t := R.m.trace) (i := R.m.trace.length) (Nat.le_refl _) (by rw [List.take_length]; exact HR3.out) i e o (List.getElem?_eq_some_iff.1 h1).1 h1 h2 (.inr hk))).mono ?_
  rw [HANS.out]
  rintro e w3 ⟨A3, c3, rfl, HP⟩
  have HS3 := HP.sep
  have HE3 := HP.ext
  clear HP
  go_wp2
  go_ret2
  exact A2Ok.of (v := .slice A3 ans.length c3) (Post.mk' (Ent.sep (S := _) inferInstance inferInstance) inferInstance)
def ok_DeferredBy (L : List (List St)) (fn arg fuel call : Int) : Bool := callB L fn arg fuel call
def ans_DeferredBy (L : List (List St)) (fn arg fuel call : Int) : List (Int × Int) := if callB L fn arg fuel call then defA (ranM L fn arg fuel.toNat).m.trace (ranM L fn arg fuel.toNat).m.owners call else []
theorem ans_DeferredBy_no {L : List (List St)} {fn arg fuel call : Int} (h : callB L fn arg fuel call = false) : ans_DeferredBy L fn arg fuel call = [] := by unfold ans_DeferredBy; rw [h]; rfl
theorem ans_DeferredBy_yes {L : List (List St)} {fn arg : Int} {fu : Nat} {call : Int} (h : callB L fn arg fu call = true) : ans_DeferredBy L fn arg fu call = defA (ranM L fn arg fu).m.trace (ranM L fn arg fu).m.owners call := by unfold ans_DeferredBy; rw [if_pos h]; rfl
theorem small_DeferredBy (L : List (List St)) (fn arg fuel call : Int) : (ans_DeferredBy L fn arg fuel call).length ≤ 1048576 := by
  obtain ⟨v, hv⟩ : ∃ v, callB L fn arg fuel call = v := ⟨_, rfl⟩
  cases v
  · rw [ans_DeferredBy_no hv]; simp
  · have hb := hv
    unfold callB at hb
    rw [Bool.and_eq_true] at hb
    obtain ⟨fu, rfl⟩ : ∃ fu : Nat, fuel = fu := ⟨fuel.toNat, by have := (askB_of hb.1).2.2.2.1; omega⟩
    rw [ans_DeferredBy_yes hv]
    have FF := factsB hb.1
    have hts := FF.ts
    have h1 := List.length_filterMap_le (defF call) ((ranM L fn arg fu).m.trace.zip (ranM L fn arg fu).m.owners)
    have h2 : ((ranM L fn arg fu).m.trace.zip (ranM L fn arg fu).m.owners).length ≤ (ranM L fn arg fu).m.trace.length := by rw [List.length_zip]; omega
    unfold defA
    omega
theorem impl_DeferredByA (S : HP) (w : World) [H : SepI w S] (A : Option Addr) (c : Nat) (bs : List Bd) [r : Rd S A (cBds bs)] [B : Bodies S bs] (fn arg fuel call : Int) :
    Calls Try.prog 51 #[.agg #[.slice A bs.length c], .int .i64 fn, .int .i64 arg, .int .i64 fuel, .int .i64 call] w (A2Ok S (ans_DeferredBy (bs.map (·.l)) fn arg fuel call) (ok_DeferredBy (bs.map (·.l)) fn arg fuel call) w) := by
  obtain ⟨v, hv⟩ : ∃ v, askB (bs.map (·.l)) fn arg fuel = v := ⟨_, rfl⟩
  cases v
  · have hc : callB (bs.map (·.l)) fn arg fuel call = false := by unfold callB; rw [hv]; rfl
    unfold ok_DeferredBy
    rw [hc, ans_DeferredBy_no hc]; exact impl_DeferredByN S w A c bs fn arg fuel call hv
  · obtain ⟨fu, rfl⟩ : ∃ fu : Nat, fuel = fu := ⟨fuel.toNat, by have := (askB_of hv).2.2.2.1; omega⟩
    obtain ⟨q, hq⟩ : ∃ q, inB call 0 (((ranM (bs.map (·.l)) fn arg fu).m.calls.length : Int) - 1) = q := ⟨_, rfl⟩
    have hc : callB (bs.map (·.l)) fn arg fu call = q := by unfold callB; rw [hv, Bool.true_and]; exact hq
    unfold ok_DeferredBy
    rw [hc]
    cases q
    · rw [ans_DeferredBy_no hc]; exact impl_DeferredByO S w A c bs fn arg fu _ rfl hv call hq
    · rw [ans_DeferredBy_yes hc]; exact impl_DeferredByV S w A c bs fn arg fu _ rfl hv call hq
theorem spec_DeferredByA (S : HP) (w : World) [H : SepI w S] (A : Option Addr) (c : Nat) (bs : List Bd) [r : Rd S A (cBds bs)] [B : Bodies S bs] (hnn : NoneNil bs) (fn arg fuel call : Int) :
    Calls Try.prog 50 #[.agg #[.slice A bs.length c], .int .i64 fn, .int .i64 arg, .int .i64 fuel, .int .i64 call] w (A2Ok S (ans_DeferredBy (bs.map (·.l)) fn arg fuel call) (ok_DeferredBy (bs.map (·.l)) fn arg fuel call) w) := by
  obtain ⟨v, hv⟩ : ∃ v, askB (bs.map (·.l)) fn arg fuel = v := ⟨_, rfl⟩
  cases v
  · have hc : callB (bs.map (·.l)) fn arg fuel call = false := by unfold callB; rw [hv]; rfl
    unfold ok_DeferredBy
    rw [hc, ans_DeferredBy_no hc]; exact spec_DeferredByN S w A c bs fn arg fuel call hv
  · obtain ⟨fu, rfl⟩ : ∃ fu : Nat, fuel = fu := ⟨fuel.toNat, by have := (askB_of hv).2.2.2.1; omega⟩
    obtain ⟨q, hq⟩ : ∃ q, inB call 0 (((ranM (bs.map (·.l)) fn arg fu).m.calls.length : Int) - 1) = q := ⟨_, rfl⟩
    have hc : callB (bs.map (·.l)) fn arg fu call = q := by unfold callB; rw [hv, Bool.true_and]; exact hq
    unfold ok_DeferredBy
    rw [hc]
    cases q
    · rw [ans_DeferredBy_no hc]; exact spec_DeferredByO S w A c bs hnn fn arg fu _ rfl hv call hq
    · rw [ans_DeferredBy_yes hc]; exact spec_DeferredByV S w A c bs hnn fn arg fu _ rfl hv call hq
def ok_RunBy (L : List (List St)) (fn arg fuel call : Int) : Bool := callB L fn arg fuel call
def ans_RunBy (L : List (List St)) (fn arg fuel call : Int) : List (Int × Int) := if callB L fn arg fuel call then runA (ranM L fn arg fuel.toNat).m.trace (ranM L fn arg fuel.toNat).m.owners ((ranM L fn arg fuel.toNat).m.calls.map c5) call else []
theorem ans_RunBy_no {L : List (List St)} {fn arg fuel call : Int} (h : callB L fn arg fuel call = false) : ans_RunBy L fn arg fuel call = [] := by unfold ans_RunBy; rw [h]; rfl
theorem ans_RunBy_yes {L : List (List St)} {fn arg : Int} {fu : Nat} {call : Int} (h : callB L fn arg fu call = true) : ans_RunBy L fn arg fu call = runA (ranM L fn arg fu).m.trace (ranM L fn arg fu).m.owners ((ranM L fn arg fu).m.calls.map c5) call := by unfold ans_RunBy; rw [if_pos h]; rfl
theorem small_RunBy (L : List (List St)) (fn arg fuel call : Int) : (ans_RunBy L fn arg fuel call).length ≤ 1048576 := by
  obtain ⟨v, hv⟩ : ∃ v, callB L fn arg fuel call = v := ⟨_, rfl⟩
  cases v
  · rw [ans_RunBy_no hv]; simp
  · have hb := hv
    unfold callB at hb
    rw [Bool.and_eq_true] at hb
    obtain ⟨fu, rfl⟩ : ∃ fu : Nat, fuel = fu := ⟨fuel.toNat, by have := (askB_of hb.1).2.2.2.1; omega⟩
    rw [ans_RunBy_yes hv]
    have FF := factsB hb.1
    have hts := FF.ts
    have h1 := List.length_filterMap_le (runF ((ranM L fn arg fu).m.calls.map c5) call) ((ranM L fn arg fu).m.trace.zip (ranM L fn arg fu).m.owners)
    have h2 : ((ranM L fn arg fu).m.trace.zip (ranM L fn arg fu).m.owners).length ≤ (ranM L fn arg fu).m.trace.length := by rw [List.length_zip]; omega
    unfold runA
    omega
theorem impl_RunByA (S : HP) (w : World) [H : SepI w S] (A : Option Addr) (c : Nat) (bs : List Bd) [r : Rd S A (cBds bs)] [B : Bodies S bs] (fn arg fuel call : Int) :
    Calls Try.prog 53 #[.agg #[.slice A bs.length c], .int .i64 fn, .int .i64 arg, .int .i64 fuel, .int .i64 call] w (A2Ok S (ans_RunBy (bs.map (·.l)) fn arg fuel call) (ok_RunBy (bs.map (·.l)) fn arg fuel call) w) := by
  obtain ⟨v, hv⟩ : ∃ v, askB (bs.map (·.l)) fn arg fuel = v := ⟨_, rfl⟩
  cases v
  · have hc : callB (bs.map (·.l)) fn arg fuel call = false := by unfold callB; rw [hv]; rfl
    unfold ok_RunBy
    rw [hc, ans_RunBy_no hc]; exact impl_RunByN S w A c bs fn arg fuel call hv
  · obtain ⟨fu, rfl⟩ : ∃ fu : Nat, fuel = fu := ⟨fuel.toNat, by have := (askB_of hv).2.2.2.1; omega⟩
    obtain ⟨q, hq⟩ : ∃ q, inB call 0 (((ranM (bs.map (·.l)) fn arg fu).m.calls.length : Int) - 1) = q := ⟨_, rfl⟩
    have hc : callB (bs.map (·.l)) fn arg fu call = q := by unfold callB; rw [hv, Bool.true_and]; exact hq
    unfold ok_RunBy
    rw [hc]
    cases q
    · rw [ans_RunBy_no hc]; exact impl_RunByO S w A c bs fn arg fu _ rfl hv call hq
    · rw [ans_RunBy_yes hc]; exact impl_RunByV S w A c bs fn arg fu _ rfl hv call hq
theorem spec_RunByA (S : HP) (w : World) [H : SepI w S] (A : Option Addr) (c : Nat) (bs : List Bd) [r : Rd S A (cBds bs)] [B : Bodies S bs] (hnn : NoneNil bs) (fn arg fuel call : Int) :
    Calls Try.prog 52 #[.agg #[.slice A bs.length c], .int .i64 fn, .int .i64 arg, .int .i64 fuel, .int .i64 call] w (A2Ok S (ans_RunBy (bs.map (·.l)) fn arg fuel call) (ok_RunBy (bs.map (·.l)) fn arg fuel call) w) := by
  obtain ⟨v, hv⟩ : ∃ v, askB (bs.map (·.l)) fn arg fuel = v := ⟨_, rfl⟩
  cases v
  · have hc : callB (bs.map (·.l)) fn arg fuel call = false := by unfold callB; rw [hv]; rfl
    unfold ok_RunBy
    rw [hc, ans_RunBy_no hc]; exact spec_RunByN S w A c bs fn arg fuel call hv
  · obtain ⟨fu, rfl⟩ : ∃ fu : Nat, fuel = fu := ⟨fuel.toNat, by have := (askB_of hv).2.2.2.1; omega⟩
    obtain ⟨q, hq⟩ : ∃ q, inB call 0 (((ranM (bs.map (·.l)) fn arg fu).m.calls.length : Int) - 1) = q := ⟨_, rfl⟩
    have hc : callB (bs.map (·.l)) fn arg fu call = q := by unfold callB; rw [hv, Bool.true_and]; exact hq
    unfold ok_RunBy
    rw [hc]
    cases q
    · rw [ans_RunBy_no hc]; exact spec_RunByO S w A c bs hnn fn arg fu _ rfl hv call hq
    · rw [ans_RunBy_yes hc]; exact spec_RunByV S w A c bs hnn fn arg fu _ rfl hv call hq
end Go.Proofs.Ythnaoedlnificaa
