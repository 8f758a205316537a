/- The reference's RunProgram, and what it asks first. Conditions: lengths within bounds. -/
import Derived.Test.YtobikkdnalnllaaQh
import Derived.Test.YtobikkdnalnllaaQi
import Derived.Test.YtobikkdnalnllaaQj
namespace Go.Proofs.Ytobikkdnalnllaa
open Go.RowKit SL
attribute [local go_sem] cell_blk frozen_blk lt_blk cell_at frozen_row lt_row
set_option linter.unusedVariables false
set_option linter.unusedSimpArgs false
set_option maxRecDepth 100000 in
set_option maxHeartbeats 4000000 in
theorem spec_l2Ask (S : HP) (w : World) [H : SepI w S] (A : Option Addr) (c : Nat) (bs : List Bd) [r : Rd S A (cBds bs)] [B : Bodies S bs] (fn arg fuel : Int) (v : Bool) (hv : askB (bs.map (·.l)) fn arg fuel = v) :
    Calls Try.prog 61 #[.agg #[.slice A bs.length c], .int .i64 fn, .int .i64 arg, .int .i64 fuel] w fun e w' => e = .returned (.bool v) ∧ Post w S w' := by
  have hbn := B.n
  obtain ⟨p, hp⟩ : ∃ p, progB (bs.map (·.l)) = p := ⟨_, rfl⟩
  obtain ⟨q, hq⟩ : ∃ q, inB fn 0 ((bs.length : Int) - 1) = q := ⟨_, rfl⟩
  obtain ⟨a, ha⟩ : ∃ a, inB arg (-32768) 32767 = a := ⟨_, rfl⟩
  obtain ⟨u, hu⟩ : ∃ u, inB fuel 0 200 = u := ⟨_, rfl⟩
  have hvv : v = (p && (q && (a && u))) := by rw [← hv]; unfold askB; rw [List.length_map, hp, hq, ha, hu]
  clear hv
  have HP0 := Hd.mk hp
  have HQ0 := Hd.mk hq
  have HA0 := Hd.mk ha
  have HU0 := Hd.mk hu
  clear hp hq ha hu
  cases p
  · subst hvv
    go_enter Try.func61, Try.ntmps61
    go_wp2_with fail
    refine (spec_l2Program _ _ _ _ bs).mono ?_
    rintro e w1 ⟨rfl, HP⟩
    rw [HP0.out]
    have HS1 := HP.sep
    have HE1 := HP.ext
    clear HP
    go_wp2
    go_ret
    exact ⟨rfl, Post.mk' (Ent.sep (S := _) (T := S) inferInstance inferInstance) inferInstance⟩
  cases q
  · subst hvv
    go_enter Try.func61, Try.ntmps61
    go_wp2_with fail
    refine (spec_l2Program _ _ _ _ bs).mono ?_
    rintro e w1 ⟨rfl, HP⟩
    rw [HP0.out]
    have HS1 := HP.sep
    have HE1 := HP.ext
    clear HP
    go_wp2_with fail
    refine (spec_l2Function _ _ _ _ _ _ _ (by omega) HQ0.out).mono ?_
    rintro e w2 ⟨rfl, HP⟩
    have HS2 := HP.sep
    have HE2 := HP.ext
    clear HP
    go_wp2
    go_ret
    exact ⟨rfl, Post.mk' (Ent.sep (S := _) (T := S) inferInstance inferInstance) inferInstance⟩
  cases a
  · subst hvv
    go_enter Try.func61, Try.ntmps61
    go_wp2_with fail
    refine (spec_l2Program _ _ _ _ bs).mono ?_
    rintro e w1 ⟨rfl, HP⟩
    rw [HP0.out]
    have HS1 := HP.sep
    have HE1 := HP.ext
    clear HP
    go_wp2_with fail
    refine (spec_l2Function _ _ _ _ _ _ _ (by omega) HQ0.out).mono ?_
    rintro e w2 ⟨rfl, HP⟩
    have HS2 := HP.sep
    have HE2 := HP.ext
    clear HP
    go_wp2_with fail
    refine (spec_l2Number _ _ _ HA0.out).mono ?_
    rintro e wz ⟨rfl, hz⟩
    have hz2 := hz.symm
    subst hz2
    clear hz
    go_wp2
    go_ret
    exact ⟨rfl, Post.mk' (Ent.sep (S := _) (T := S) inferInstance inferInstance) inferInstance⟩
  cases u
  · subst hvv
    go_enter Try.func61, Try.ntmps61
    go_wp2_with fail
    refine (spec_l2Program _ _ _ _ bs).mono ?_
    rintro e w1 ⟨rfl, HP⟩
    rw [HP0.out]
    have HS1 := HP.sep
    have HE1 := HP.ext
    clear HP
    go_wp2_with fail
    refine (spec_l2Function _ _ _ _ _ _ _ (by omega) HQ0.out).mono ?_
    rintro e w2 ⟨rfl, HP⟩
    have HS2 := HP.sep
    have HE2 := HP.ext
    clear HP
    go_wp2_with fail
    refine (spec_l2Number _ _ _ HA0.out).mono ?_
    rintro e wz ⟨rfl, hz⟩
    have hz2 := hz.symm
    subst hz2
    clear hz
    go_wp2_with fail
    refine (spec_in _ _ _ _ _ HU0.out).mono ?_
    rintro e wz ⟨rfl, hz⟩
    have hz2 := hz.symm
    subst hz2
    clear hz
    go_wp2
    go_ret
    exact ⟨rfl, Post.mk' (Ent.sep (S := _) (T := S) inferInstance inferInstance) inferInstance⟩
  · subst hvv
    go_enter Try.func61, Try.ntmps61
    go_wp2_with fail
    refine (spec_l2Program _ _ _ _ bs).mono ?_
    rintro e w1 ⟨rfl, HP⟩
    rw [HP0.out]
    have HS1 := HP.sep
    have HE1 := HP.ext
    clear HP
    go_wp2_with fail
    refine (spec_l2Function _ _ _ _ _ _ _ (by omega) HQ0.out).mono ?_
    rintro e w2 ⟨rfl, HP⟩
    have HS2 := HP.sep
    have HE2 := HP.ext
    clear HP
    go_wp2_with fail
    refine (spec_l2Number _ _ _ HA0.out).mono ?_
    rintro e wz ⟨rfl, hz⟩
    have hz2 := hz.symm
    subst hz2
    clear hz
    go_wp2_with fail
    refine (spec_in _ _ _ _ _ HU0.out).mono ?_
    rintro e wz ⟨rfl, hz⟩
    have hz2 := hz.symm
    subst hz2
    clear hz
    go_wp2
    go_ret
    exact ⟨rfl, Post.mk' (Ent.sep (S := _) (T := S) inferInstance inferInstance) inferInstance⟩
structure MRd (S0 S : HP) (gm : Nat) (A : Option Addr) (n c : Nat) (fuel : Int) (R : Run) (x : MVs) : Prop where
  blk : HasBlk S0 gm (.cells (mcR A n c fuel R.m.made R.m.shared R.m.depth R.m.deepest (.slice x.A1 R.m.trace.length x.c1) (.slice x.A2 R.m.owners.length x.c2) (.slice x.A3 R.m.calls.length x.c3) (.slice x.A4 x.ps.length x.c4) (.slice x.A5 R.m.recs.length x.c5) x.bm R.kind R.val) 98 (0, 0))
  tr : Rd S0 x.A1 (cEvs R.m.trace)
  ow : Rd S0 x.A2 (ints R.m.owners)
  ca : Rd S0 x.A3 (cCis R.m.calls)
  pa : Rd S0 x.A4 (cPvs x.ps)
  rc : Rd S0 x.A5 (cRcs R.m.recs)
  out : ∀ {X : HP} {w : World}, SepI w (X * S0) → SepI w (X * S)
  out0 : ∀ {w : World}, SepI w S0 → SepI w S
  us : ∀ {w : World}, SepI w S0 → ∀ y ∈ x.ps, ∃ A c, y.u = .slice A y.p.un.length c
theorem MachRC.rd (gm : Nat) (A : Option Addr) (n c : Nat) (fuel : Int) (R : Run) (x : MVs) (S : HP) : MRd (MachRC gm A n c fuel R.m R.kind R.val x S) S gm A n c fuel R x := by
  have out : ∀ {X : HP} {w : World}, SepI w (X * MachRC gm A n c fuel R.m R.kind R.val x S) → SepI w (X * S) := fun {X w} H => by
    unfold MachRC at H
    exact Ent.sep (S := _) (T := X * S) inferInstance H
  refine ⟨?_, ?_, ?_, ?_, ?_, ?_, out, fun {w} H => ?_, fun {w} H y hy => ?_⟩
  · unfold MachRC; infer_instance
  · unfold MachRC; infer_instance
  · unfold MachRC; infer_instance
  · unfold MachRC; infer_instance
  · unfold MachRC; infer_instance
  · unfold MachRC; infer_instance
  · unfold MachRC at H
    exact Ent.sep (S := _) (T := S) inferInstance H
  · unfold MachRC at H
    obtain ⟨Rr, e⟩ := stars_pick (List.mem_map_of_mem (f := unH) hy)
    rw [e, star_assoc] at H
    obtain ⟨A1, c1, h, _⟩ := Row.form (e := 3) (size := 1) (cs := ints y.p.un) H.right.right.right.right.right
    exact ⟨A1, c1, h⟩
def RunX (S : HP) (R : Run) (w : World) (e : Ending) (w' : World) : Prop :=
  ∃ A c, e = .returned (.agg #[.int .i64 R.kind, .int .i64 R.val, .slice A R.m.trace.length c, .int .i64 (R.m.made : Int)]) ∧ Post w (Row 75 3 (.slice A R.m.trace.length c) R.m.trace.length (cEvs R.m.trace) * S) w'
theorem spec_runX (S : HP) (w : World) [H : SepI w S] (A : Option Addr) (c : Nat) (bs : List Bd) [r : Rd S A (cBds bs)] [B : Bodies S bs] (hnn : NoneNil bs) (fn arg : Int) (fu : Nat) (L : List (List St)) (hbs : bs.map (·.l) = L) (hv : askB L fn arg fu = true) :
    Calls Try.prog 55 #[.agg #[.slice A bs.length c], .int .i64 fn, .int .i64 arg, .int .i64 fu] w (RunX S (ranM L fn arg fu) w) := by
  subst hbs
  obtain ⟨hL, h1, h2, h3, h4⟩ := askB_of hv
  have J := joined hL h1 h2 fu
  refine (spec_l2Run S w A bs.length c bs rfl hnn _ rfl hL fn arg fu h1 h2 (by omega)).mono ?_
  rintro e w' ⟨vt, rfl, ⟨A', n', c', rfl⟩, HP⟩
  rw [J.trace] at HP
  obtain ⟨A2, c2, hv2, _⟩ := Row.form HP.sep
  injection hv2 with e1 e2 e3
  subst e1 e2 e3
  refine ⟨_, _, ?_, HP⟩
  show Ending.returned (.agg #[.int .i64 _, .int .i64 _, _, .int .i64 _]) = _
  rw [J.kind, J.val, J.made]
def IntsPost (S : HP) (l : List Int) (w : World) (e : Ending) (w' : World) : Prop := ∃ A c, e = .returned (.slice A l.length c) ∧ Post w (Row 3 1 (.slice A l.length c) l.length (ints l) * S) w'
def IntsOk (S : HP) (l : List Int) (ok : Bool) (w : World) (e : Ending) (w' : World) : Prop := ∃ A c, e = two (.slice A l.length c) (.bool ok) ∧ Post w (Row 3 1 (.slice A l.length c) l.length (ints l) * S) w'
theorem IntsPost.of {S : HP} {l : List Int} {w w' : World} {v : Value} (h : Post w (Row 3 1 v l.length (ints l) * S) w') : IntsPost S l w (.returned v) w' := by
  obtain ⟨A, c, rfl, _⟩ := Row.form h.sep
  exact ⟨A, c, rfl, h⟩
theorem IntsOk.of {S : HP} {l : List Int} {ok : Bool} {w w' : World} {v : Value} (h : Post w (Row 3 1 v l.length (ints l) * S) w') : IntsOk S l ok w (two v (.bool ok)) w' := by
  obtain ⟨A, c, rfl, _⟩ := Row.form h.sep
  exact ⟨A, c, rfl, h⟩
theorem IntsOk.nil {S : HP} {ok : Bool} {w w' : World} {v : Value} (h : Post w (Row 3 1 v 0 [] * S) w') : IntsOk S [] ok w (two v (.bool ok)) w' := IntsOk.of (l := []) h
theorem MRd.post {S0 S : HP} {gm : Nat} {A : Option Addr} {n c : Nat} {fuel : Int} {R : Run} {x : MVs} (M : MRd S0 S gm A n c fuel R x) {X : HP} {w w' : World} (h : Post w (X * S0) w') : Post w (X * S) w' := ⟨M.out h.sep, h.ext⟩
end Go.Proofs.Ytobikkdnalnllaa
