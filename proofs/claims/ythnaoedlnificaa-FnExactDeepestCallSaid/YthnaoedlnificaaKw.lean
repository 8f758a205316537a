/- DeepestCall and FuelOf, the program's. Conditions: lengths within bounds. -/
import Derived.Test.YthnaoedlnificaaKv
namespace Go.Proofs.Ythnaoedlnificaa
open Go.RowKit SL
attribute [local go_sem] cell_blk frozen_blk lt_blk cell_at frozen_row lt_row
set_option linter.unusedVariables false
set_option linter.unusedSimpArgs false

set_option maxRecDepth 100000 in
set_option maxHeartbeats 8000000 in
theorem impl_DeepestCallN (S : HP) (w : World) [H : SepI w S] (A : Option Addr) (c : Nat) (bs : List Bd) [r : Rd S A (cBds bs)] [B : Bodies S bs] (fn arg fuel : Int) (hv : askB (bs.map (·.l)) fn arg fuel = false) :
    Calls Try.prog 25 #[.agg #[.slice A bs.length c], .int .i64 fn, .int .i64 arg, .int .i64 fuel] w (fun e w' => e = two (.int .i64 0) (.bool false) ∧ Post w S w') := by
  have hbn := B.n
  have HV := Hd.mk hv
  clear hv
  have hnot : ∀ (x : Bool) (w : World), (Op.unary .not (.bool x)).run Try.prog w = .ok (.bool (!x)) w := fun _ _ => rfl
  go_enter Try.func25, Try.ntmps25
  go_wp2_with fail
  refine (impl_ranN _ _ A c bs fn arg fuel HV.out).mono ?_
  rintro e w1 ⟨rfl, HP⟩
  have HS1 := HP.sep
  have HE1 := HP.ext
  clear HP
  go_wp2
  go_ret2
  exact ⟨rfl, Post.mk' (Ent.sep (S := _) (T := S) inferInstance inferInstance) inferInstance⟩
set_option maxRecDepth 100000 in
set_option maxHeartbeats 8000000 in
theorem impl_DeepestCall (S : HP) (w : World) [H : SepI w S] (A : Option Addr) (c : Nat) (bs : List Bd) [r : Rd S A (cBds bs)] [B : Bodies S bs] (fn arg : Int) (fu : Nat) (L : List (List St)) (hbs : bs.map (·.l) = L) (hv : askB L fn arg (fu : Nat) = true) :
    Calls Try.prog 25 #[.agg #[.slice A bs.length c], .int .i64 fn, .int .i64 arg, .int .i64 fu] w (fun e w' => e = two (.int .i64 ((ranM L fn arg fu).m.deepest : Nat)) (.bool true) ∧ Post w S w') := by
  have hbn := B.n
  have HV := Hd.mk hv
  have HB := Hd.mk hbs
  clear hv hbs
  obtain ⟨R, hR⟩ : ∃ R, ranM L fn arg fu = R := ⟨_, rfl⟩
  have HR := Hd.mk hR
  rw [hR]
  clear hR
  have hnot : ∀ (x : Bool) (w : World), (Op.unary .not (.bool x)).run Try.prog w = .ok (.bool (!x)) w := fun _ _ => rfl
  go_enter Try.func25, Try.ntmps25
  go_wp2_with fail
  refine (impl_ranA _ _ A c bs fn arg fu L HB.out HV.out).mono ?_
  rw [HR.out]
  rintro e w1 ⟨gm, x, rfl, hps, HP⟩
  clear hps
  have HS1 := HP.sep
  have HE1 := HP.ext
  clear HP
  unfold MachRC at HS1
  go_wp2
  go_ret2
  exact ⟨rfl, Post.mk' (Ent.sep (S := _) (T := S) inferInstance inferInstance) inferInstance⟩
set_option maxRecDepth 100000 in
set_option maxHeartbeats 8000000 in
theorem impl_FuelOfN (S : HP) (w : World) [H : SepI w S] (A : Option Addr) (c : Nat) (bs : List Bd) [r : Rd S A (cBds bs)] [B : Bodies S bs] (fn arg : Int) (hv : askB (bs.map (·.l)) fn arg 200 = false) :
    Calls Try.prog 27 #[.agg #[.slice A bs.length c], .int .i64 fn, .int .i64 arg] w (fun e w' => e = two (.int .i64 0) (.bool false) ∧ Post w S w') := by
  have hbn := B.n
  have HV := Hd.mk hv
  clear hv
  have hnot : ∀ (x : Bool) (w : World), (Op.unary .not (.bool x)).run Try.prog w = .ok (.bool (!x)) w := fun _ _ => rfl
  go_enter Try.func27, Try.ntmps27
  go_wp2_with fail
  refine (impl_ranN _ _ A c bs fn arg 200 HV.out).mono ?_
  rintro e w1 ⟨rfl, HP⟩
  have HS1 := HP.sep
  have HE1 := HP.ext
  clear HP
  go_wp2
  go_ret2
  exact ⟨rfl, Post.mk' (Ent.sep (S := _) (T := S) inferInstance inferInstance) inferInstance⟩
set_option maxRecDepth 100000 in
set_option maxHeartbeats 8000000 in
theorem impl_FuelOf (S : HP) (w : World) [H : SepI w S] (A : Option Addr) (c : Nat) (bs : List Bd) [r : Rd S A (cBds bs)] [B : Bodies S bs] (fn arg : Int) (L : List (List St)) (hbs : bs.map (·.l) = L) (hv : askB L fn arg (200 : Nat) = true) :
    Calls Try.prog 27 #[.agg #[.slice A bs.length c], .int .i64 fn, .int .i64 arg] w (fun e w' => e = (if (ranM L fn arg 200).kind = 4 then two (.int .i64 0) (.bool false) else two (.int .i64 ((ranM L fn arg 200).m.made : Nat)) (.bool true)) ∧ Post w S w') := by
  have hbn := B.n
  have HV := Hd.mk hv
  have HB := Hd.mk hbs
  clear hv hbs
  obtain ⟨R, hR⟩ : ∃ R, ranM L fn arg 200 = R := ⟨_, rfl⟩
  have HR := Hd.mk hR
  rw [hR]
  clear hR
  have hnot : ∀ (x : Bool) (w : World), (Op.unary .not (.bool x)).run Try.prog w = .ok (.bool (!x)) w := fun _ _ => rfl
  obtain ⟨X, hX⟩ : ∃ X : Ending, (if R.kind = 4 then two (.int .i64 0) (.bool false) else two (.int .i64 (R.m.made : Nat)) (.bool true)) = X := ⟨_, rfl⟩
  rw [hX]
  have HX := Hd.mk hX
  clear hX
  go_enter Try.func27, Try.ntmps27
  go_wp2_with fail
  refine (impl_ranA _ _ A c bs fn arg 200 L HB.out HV.out).mono ?_
  rw [HR.out]
  rintro e w1 ⟨gm, x, rfl, hps, HP⟩
  clear hps
  have HS1 := HP.sep
  have HE1 := HP.ext
  clear HP
  unfold MachRC at HS1
  by_cases h4 : R.kind = 4
  · have HX2 : Hd (X = two (.int .i64 0) (.bool false)) := ⟨by rw [← HX.out, if_pos h4]⟩
    have h4' : (R.kind == 4) = true := beq_iff_eq.2 h4
    go_wp2
    go_ret2
    rw [HX2.out]
    exact ⟨rfl, Post.mk' (Ent.sep (S := _) (T := S) inferInstance inferInstance) inferInstance⟩
  · have HX2 : Hd (X = two (.int .i64 0) (.bool false) ∨ X = two (.int .i64 (R.m.made : Nat)) (.bool true)) := ⟨.inr (by rw [← HX.out, if_neg h4])⟩
    have HX3 : Hd (X = two (.int .i64 (R.m.made : Nat)) (.bool true)) := ⟨by rw [← HX.out, if_neg h4]⟩
    clear HX2
    have h4' : (R.kind == 4) = false := beq_eq_false_iff_ne.2 h4
    go_wp2
    go_ret2
    rw [HX3.out]
    exact ⟨rfl, Post.mk' (Ent.sep (S := _) (T := S) inferInstance inferInstance) inferInstance⟩
end Go.Proofs.Ythnaoedlnificaa
