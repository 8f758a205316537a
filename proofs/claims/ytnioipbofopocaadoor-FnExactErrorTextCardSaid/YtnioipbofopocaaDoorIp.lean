/- Valid steps, valid programs: the program's way and the reference's. Conditions: lengths within bounds. -/
import Derived.Test.YtnioipbofopocaaDoorPe
import Derived.Test.YtnioipbofopocaaDoorSc
namespace Go.Proofs.YtnioipbofopocaaDoor
open Go.RowKit SL
attribute [local go_sem] cell_blk frozen_blk lt_blk cell_at frozen_row lt_row
set_option linter.unusedVariables false
set_option linter.unusedSimpArgs false

theorem impl_isRegister (n : Int) (v : Bool) (w : World) (hv : inB n 0 3 = v) : Calls Tryd.prog 122 #[.int .i64 n] w fun e w' => e = .returned (.bool v) ∧ w' = w := by
  have HV := Hd.mk hv
  clear hv
  go_enter Tryd.func122, Tryd.ntmps122
  go_wp2_with (go_at_call 40; refine (impl_in _ _ _ v _ HV.out).mono ?_; rintro e w' ⟨rfl, rfl⟩)
  go_ret
  exact ⟨rfl, rfl⟩
theorem impl_isNumber (n : Int) (v : Bool) (w : World) (hv : inB n (-32768) 32767 = v) : Calls Tryd.prog 123 #[.int .i64 n] w fun e w' => e = .returned (.bool v) ∧ w' = w := by
  have HV := Hd.mk hv
  clear hv
  go_enter Tryd.func123, Tryd.ntmps123
  go_wp2_with (go_at_call 40; refine (impl_in _ _ _ v _ HV.out).mono ?_; rintro e w' ⟨rfl, rfl⟩)
  go_ret
  exact ⟨rfl, rfl⟩
theorem spec_l2Reg (n : Int) (v : Bool) (w : World) (hv : inB n 0 3 = v) : Calls Tryd.prog 117 #[.int .i64 n] w fun e w' => e = .returned (.bool v) ∧ w' = w := by
  have HV := Hd.mk hv
  clear hv
  go_enter Tryd.func117, Tryd.ntmps117
  go_wp2_with (go_at_call 38; refine (spec_in _ _ _ v _ HV.out).mono ?_; rintro e w' ⟨rfl, rfl⟩)
  go_ret
  exact ⟨rfl, rfl⟩
theorem spec_l2Number (n : Int) (v : Bool) (w : World) (hv : inB n (-32768) 32767 = v) : Calls Tryd.prog 118 #[.int .i64 n] w fun e w' => e = .returned (.bool v) ∧ w' = w := by
  have HV := Hd.mk hv
  clear hv
  go_enter Tryd.func118, Tryd.ntmps118
  go_wp2_with (go_at_call 38; refine (spec_in _ _ _ v _ HV.out).mono ?_; rintro e w' ⟨rfl, rfl⟩)
  go_ret
  exact ⟨rfl, rfl⟩
theorem spec_l2Function (S : HP) (A : Option Addr) (c n : Nat) (f : Int) (v : Bool) (w : World) [H : SepI w S] (hn : n ≤ 1048576) (hv : inB f 0 ((n : Int) - 1) = v) :
    Calls Tryd.prog 119 #[.agg #[.slice A n c], .int .i64 f] w fun e w' => e = .returned (.bool v) ∧ Post w S w' := by
  have HV := Hd.mk hv
  clear hv
  go_enter Tryd.func119, Tryd.ntmps119
  go_wp2_with (go_at_call 38; refine (spec_in _ _ _ v _ HV.out).mono ?_; rintro e w' ⟨rfl, rfl⟩)
  go_ret
  exact ⟨rfl, Post.mk' (Ent.sep (S := _) inferInstance inferInstance) inferInstance⟩

/-- A valid step. -/
def stepB (s : St) (n : Nat) : Bool :=
  if s.k = 1 then inB s.a 0 3 && inB s.b (-32768) 32767
  else if s.k = 2 then inB s.a 0 3 && inB s.b 0 3
  else if s.k = 4 ∨ s.k = 5 then inB s.a 0 ((n : Int) - 1) && inB s.b 0 3
  else if s.k = 11 then inB s.a 0 8 && inB s.b 0 3
  else if s.k = 10 then decide (s.a = 0) && decide (s.b = 0)
  else inB s.k 1 13 && (inB s.a 0 3 && decide (s.b = 0))


end Go.Proofs.YtnioipbofopocaaDoor
