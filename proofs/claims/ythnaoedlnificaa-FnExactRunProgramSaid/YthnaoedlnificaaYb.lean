/- A machine that has run, as it is read; the reference's run, told alike. Conditions: lengths within bounds. -/
import Derived.Test.YthnaoedlnificaaYa
import Derived.Test.YthnaoedlnificaaNr
namespace Go.Proofs.Ythnaoedlnificaa
open Go.RowKit SL
attribute [local go_sem] cell_blk frozen_blk lt_blk cell_at frozen_row lt_row
set_option linter.unusedVariables false
set_option linter.unusedSimpArgs false

/-- S0 holds a machine that has run, and all that is in S. -/
structure MRd (S0 S : HP) (gm : Nat) (A : Option Addr) (n c : Nat) (fuel : Int) (R : Run) (x : MVs) : Prop where
  blk : HasBlk S0 gm (.cells (mcR A n c fuel R.m.made R.m.shared R.m.depth R.m.deepest (.slice x.A1 R.m.trace.length x.c1) (.slice x.A2 R.m.owners.length x.c2) (.slice x.A3 R.m.calls.length x.c3) (.slice x.A4 x.ps.length x.c4) (.slice x.A5 R.m.recs.length x.c5) x.bm R.kind R.val) 77 (0, 0))
  tr : Rd S0 x.A1 (cEvs R.m.trace)
  ow : Rd S0 x.A2 (ints R.m.owners)
  ca : Rd S0 x.A3 (cCis R.m.calls)
  pa : Rd S0 x.A4 (cPvs x.ps)
  rc : Rd S0 x.A5 (cRcs R.m.recs)
  out : ∀ {X : HP} {w : World}, SepI w (X * S0) → SepI w (X * S)
  out0 : ∀ {w : World}, SepI w S0 → SepI w S
theorem MachRC.rd (gm : Nat) (A : Option Addr) (n c : Nat) (fuel : Int) (R : Run) (x : MVs) (S : HP) : MRd (MachRC gm A n c fuel R.m R.kind R.val x S) S gm A n c fuel R x := by
  have out : ∀ {X : HP} {w : World}, SepI w (X * MachRC gm A n c fuel R.m R.kind R.val x S) → SepI w (X * S) := fun {X w} H => by
    unfold MachRC at H
    exact Ent.sep (S := _) (T := X * S) inferInstance H
  refine ⟨?_, ?_, ?_, ?_, ?_, ?_, out, fun {w} H => ?_⟩
  · unfold MachRC; infer_instance
  · unfold MachRC; infer_instance
  · unfold MachRC; infer_instance
  · unfold MachRC; infer_instance
  · unfold MachRC; infer_instance
  · unfold MachRC; infer_instance
  · unfold MachRC at H
    exact Ent.sep (S := _) (T := S) inferInstance H
/-- What ran hands back, read. -/
def RanX (S : HP) (A : Option Addr) (n c : Nat) (fuel : Int) (R : Run) (w : World) (e : Ending) (w' : World) : Prop :=
  ∃ gm x S0, e = two (.pointer (some ⟨gm, 0, none⟩)) (.bool true) ∧ x.ps.map (·.p) = R.m.panics ∧ MRd S0 S gm A n c fuel R x ∧ Post w S0 w'
theorem impl_ranX (S : HP) (w : World) [H : SepI w S] (A : Option Addr) (c : Nat) (bs : List Bd) [r : Rd S A (cBds bs)] [B : Bodies S bs] (fn arg : Int) (fu : Nat) (L : List (List St)) (hbs : bs.map (·.l) = L) (hv : askB L fn arg fu = true) :
    Calls Try.prog 60 #[.agg #[.slice A bs.length c], .int .i64 fn, .int .i64 arg, .int .i64 fu] w (RanX S A bs.length c fu (ranM L fn arg fu) w) := by
  refine (impl_ranA S w A c bs fn arg fu L hbs hv).mono ?_
  rintro e w' ⟨gm, x, he, hp, HP⟩
  exact ⟨gm, x, _, he, hp, MachRC.rd _ _ _ _ _ _ _ _, HP⟩
/-- The reference's run, told as the program's. -/
def RunX (S : HP) (R : Run) (w : World) (e : Ending) (w' : World) : Prop :=
  ∃ A c, e = .returned (.agg #[.int .i64 R.kind, .int .i64 R.val, .slice A R.m.trace.length c, .int .i64 (R.m.made : Int)]) ∧ Post w (Row 94 3 (.slice A R.m.trace.length c) R.m.trace.length (cEvs R.m.trace) * S) w'
theorem spec_runX (S : HP) (w : World) [H : SepI w S] (A : Option Addr) (c : Nat) (bs : List Bd) [r : Rd S A (cBds bs)] [B : Bodies S bs] (hnn : NoneNil bs) (fn arg : Int) (fu : Nat) (L : List (List St)) (hbs : bs.map (·.l) = L) (hv : askB L fn arg fu = true) :
    Calls Try.prog 58 #[.agg #[.slice A bs.length c], .int .i64 fn, .int .i64 arg, .int .i64 fu] w (RunX S (ranM L fn arg fu) w) := by
  subst hbs
  obtain ⟨hL, h1, h2, h3, h4⟩ := askB_of hv
  have J := joined hL h1 h2 fu
  refine (spec_l2Run S w A bs.length c bs rfl hnn _ rfl hL fn arg fu h1 h2 (by omega)).mono ?_
  rintro e w' ⟨vt, rfl, ⟨A', n', c', rfl⟩, HP⟩
  rw [J.trace] at HP
  obtain ⟨A2, c2, hv2, _⟩ := Row.form HP.sep
  injection hv2 with e1 e2 e3
  subst e1 e2 e3
  refine ⟨_, _, ?_, HP⟩
  show Ending.returned (.agg #[.int .i64 _, .int .i64 _, _, .int .i64 _]) = _
  rw [J.kind, J.val, J.made]
end Go.Proofs.Ythnaoedlnificaa
