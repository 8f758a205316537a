/- Programs: whether a body recovers, by the program. Conditions: lengths within bounds. -/
import Derived.Test.YtnmbmdigiaokjaaGb
import Derived.Test.YtnmbmdigiaokjaaFd
namespace Go.Proofs.Ytnmbmdigiaokjaa
open Go.RowKit SL
attribute [local go_sem] cell_blk frozen_blk lt_blk cell_at frozen_row lt_row
set_option linter.unusedVariables false
set_option linter.unusedSimpArgs false

def hasRec (l : List St) : Bool := l.any (fun s => s.k == 7)
theorem enters_hr : Enters 107 := fun _ _ => by go_simp
theorem enters_gu : Enters 83 := fun _ _ => by go_simp
set_option maxHeartbeats 1000000 in
theorem impl_hr1 (S : HP) (w : World) [H : SepI w S] (x : St) :
    Calls Try.prog 107 #[stV x] w fun e w' => e = .returned (.bool (x.k == 7)) ∧ Post w S w' := by
  unfold stV
  go_enter Try.func107, Try.ntmps107
  go_wp2
  go_ret
  exact ⟨rfl, Post.mk' (Ent.sep (S := _) inferInstance inferInstance) inferInstance⟩
set_option maxHeartbeats 1000000 in
theorem impl_hasRecover (S : HP) (w : World) [H : SepI w S] (A : Option Addr) (c : Nat) (l : List St) [r : Rd S A (cSts l)] (hn : l.length ≤ 1048576) (v : Bool) (hv : hasRec l = v) :
    Calls Try.prog 84 #[.slice A l.length c] w fun e w' => e = .returned (.bool v) ∧ Post w S w' := by
  have HV := Hd.mk hv
  have HPR : Hd (∀ x ∈ l, Pred S 107 #[] (stV x) (x.k == 7)) := ⟨fun x _ W HW => impl_hr1 S W x⟩
  clear hv
  go_enter Try.func84, Try.ntmps84
  go_wp2_with fail
  refine (containsStep _ _ _ _ l hn _ _ _ _ enters_hr HPR.out HV.out).mono ?_
  rintro e w1 ⟨rfl, HP⟩
  have HS1 := HP.sep
  have HE1 := HP.ext
  clear HP
  go_wp2
  go_ret
  exact ⟨rfl, Post.mk' (Ent.sep (S := _) inferInstance inferInstance) inferInstance⟩
end Go.Proofs.Ytnmbmdigiaokjaa
