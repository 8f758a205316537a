/- The program's RunProgram. Conditions: lengths within bounds. -/
import Derived.Test.YthnaoedlnificaaQj
import Derived.Test.YthnaoedlnificaaNr
namespace Go.Proofs.Ythnaoedlnificaa
open Go.RowKit SL
attribute [local go_sem] cell_blk frozen_blk lt_blk cell_at frozen_row lt_row
set_option linter.unusedVariables false
set_option linter.unusedSimpArgs false


def RunI (S : HP) (R : Run) (w : World) (e : Ending) (w' : World) : Prop := ∃ A c, e = two (outI R.kind R.val (.slice A R.m.trace.length c) R.m.made) (.bool true) ∧ Post w (Row 94 3 (.slice A R.m.trace.length c) R.m.trace.length (cEvs R.m.trace) * S) w'
set_option maxRecDepth 100000 in
set_option maxHeartbeats 4000000 in
theorem impl_RunProgramN (S : HP) (w : World) [H : SepI w S] (A : Option Addr) (c : Nat) (bs : List Bd) [r : Rd S A (cBds bs)] [B : Bodies S bs] (fn arg fuel : Int) (hv : askB (bs.map (·.l)) fn arg fuel = false) :
    Calls Try.prog 18 #[.agg #[.slice A bs.length c], .int .i64 fn, .int .i64 arg, .int .i64 fuel] w (fun e w' => e = two (outI 0 0 (.slice none 0 0) 0) (.bool false) ∧ Post w S w') := by
  have hbn := B.n
  have HV := Hd.mk hv
  clear hv
  have hnot : ∀ (x : Bool) (w : World), (Op.unary .not (.bool x)).run Try.prog w = .ok (.bool (!x)) w := fun _ _ => rfl
  go_enter Try.func18, Try.ntmps18
  go_wp2_with fail
  refine (impl_ranN _ _ A c bs fn arg fuel HV.out).mono ?_
  rintro e w1 ⟨rfl, HP⟩
  have HS1 := HP.sep
  have HE1 := HP.ext
  clear HP
  go_wp2
  refine bodyPost_ret (v := .tuple #[outI 0 0 (.slice none 0 0) 0, .bool false]) (by simp [results, Try.results18, go_sem]) rfl ?_
  exact ⟨rfl, Post.mk' (Ent.sep (S := _) (T := S) inferInstance inferInstance) inferInstance⟩
set_option maxRecDepth 100000 in
set_option maxHeartbeats 8000000 in
theorem impl_RunProgram (S : HP) (w : World) [H : SepI w S] (A : Option Addr) (c : Nat) (bs : List Bd) [r : Rd S A (cBds bs)] [B : Bodies S bs] (fn arg : Int) (fu : Nat) (L : List (List St)) (hbs : bs.map (·.l) = L) (hv : askB L fn arg fu = true) :
    Calls Try.prog 18 #[.agg #[.slice A bs.length c], .int .i64 fn, .int .i64 arg, .int .i64 fu] w (RunI S (ranM L fn arg fu) w) := by
  have hbn := B.n
  have HV := Hd.mk hv
  have HB := Hd.mk hbs
  clear hv hbs
  obtain ⟨R, hR⟩ : ∃ R, ranM L fn arg fu = R := ⟨_, rfl⟩
  have HR := Hd.mk hR
  rw [hR]
  clear hR
  have hnot : ∀ (x : Bool) (w : World), (Op.unary .not (.bool x)).run Try.prog w = .ok (.bool (!x)) w := fun _ _ => rfl
  go_enter Try.func18, Try.ntmps18
  go_wp2_with fail
  refine (impl_ranA _ _ A c bs fn arg fu L HB.out HV.out).mono ?_
  rw [HR.out]
  rintro e w1 ⟨gm, x, rfl, hps, HP⟩
  clear hps
  have HS1 := HP.sep
  have HE1 := HP.ext
  clear HP
  unfold MachRC at HS1
  go_wp2
  refine bodyPost_ret (v := .tuple #[outI R.kind R.val (.slice x.A1 R.m.trace.length x.c1) R.m.made, .bool true]) (by simp [results, Try.results18, go_sem]) rfl ?_
  exact ⟨x.A1, x.c1, rfl, Post.mk' (Ent.sep (S := _) inferInstance inferInstance) inferInstance⟩
end Go.Proofs.Ythnaoedlnificaa
