/- The reference's FuelOf. Conditions: lengths within bounds. -/
import Derived.Test.YthnaoedlnificaaNr
namespace Go.Proofs.Ythnaoedlnificaa
open Go.RowKit SL
attribute [local go_sem] cell_blk frozen_blk lt_blk cell_at frozen_row lt_row
set_option linter.unusedVariables false
set_option linter.unusedSimpArgs false

theorem askB_fuel {L : List (List St)} {fn arg fuel fuel' : Int} (h : askB L fn arg fuel = true) (h' : inB fuel' 0 200 = true) : askB L fn arg fuel' = true := by
  unfold askB at h ⊢
  rw [Bool.and_eq_true, Bool.and_eq_true, Bool.and_eq_true] at h ⊢
  exact ⟨h.1, h.2.1, h.2.2.1, h'⟩
set_option maxRecDepth 100000 in
set_option maxHeartbeats 8000000 in
theorem spec_FuelOfN (S : HP) (w : World) [H : SepI w S] (A : Option Addr) (c : Nat) (bs : List Bd) [r : Rd S A (cBds bs)] [B : Bodies S bs] (fn arg : Int) (hv : askB (bs.map (·.l)) fn arg 0 = false) :
    Calls Try.prog 26 #[.agg #[.slice A bs.length c], .int .i64 fn, .int .i64 arg] w (fun e w' => e = two (.int .i64 0) (.bool false) ∧ Post w S w') := by
  have hbn := B.n
  have HV := Hd.mk hv
  clear hv
  have hnot : ∀ (x : Bool) (w : World), (Op.unary .not (.bool x)).run Try.prog w = .ok (.bool (!x)) w := fun _ _ => rfl
  go_enter Try.func26, Try.ntmps26
  go_wp2_with fail
  refine (spec_l2Ask _ _ A c bs fn arg 0 _ HV.out).mono ?_
  rintro e w1 ⟨rfl, HP⟩
  have HS1 := HP.sep
  have HE1 := HP.ext
  clear HP
  go_wp2
  go_ret2
  exact ⟨rfl, Post.mk' (Ent.sep (S := _) (T := S) inferInstance inferInstance) inferInstance⟩
set_option maxRecDepth 100000 in
set_option maxHeartbeats 8000000 in
theorem spec_FuelOf (S : HP) (w : World) [H : SepI w S] (A : Option Addr) (c : Nat) (bs : List Bd) [r : Rd S A (cBds bs)] [B : Bodies S bs] (hnn : NoneNil bs) (fn arg : Int) (hv : askB (bs.map (·.l)) fn arg 0 = true) :
    Calls Try.prog 26 #[.agg #[.slice A bs.length c], .int .i64 fn, .int .i64 arg] w (fun e w' => e = (if (toldS (wholeS (bs.map (·.l)) fn arg 200).1 (wholeS (bs.map (·.l)) fn arg 200).2).kind = 4 then two (.int .i64 0) (.bool false) else two (.int .i64 ((wholeS (bs.map (·.l)) fn arg 200).1.made : Nat)) (.bool true)) ∧ Post w S w') := by
  have hbn := B.n
  have HV := Hd.mk hv
  have HV2 := Hd.mk (askB_fuel (fuel' := (200 : Nat)) hv (by decide))
  have HNN := Hd.mk hnn
  clear hv hnn
  obtain ⟨q, hq⟩ : ∃ q, wholeS (bs.map (·.l)) fn arg 200 = q := ⟨_, rfl⟩
  rw [hq]
  have HQ := Hd.mk hq
  clear hq
  obtain ⟨X, hX⟩ : ∃ X : Ending, (if (toldS q.1 q.2).kind = 4 then two (.int .i64 0) (.bool false) else two (.int .i64 (q.1.made : Nat)) (.bool true)) = X := ⟨_, rfl⟩
  rw [hX]
  have HX := Hd.mk hX
  clear hX
  have hnot : ∀ (x : Bool) (w : World), (Op.unary .not (.bool x)).run Try.prog w = .ok (.bool (!x)) w := fun _ _ => rfl
  go_enter Try.func26, Try.ntmps26
  go_wp2_with fail
  refine (spec_l2Ask _ _ A c bs fn arg 0 _ HV.out).mono ?_
  rintro e w1 ⟨rfl, HP⟩
  have HS1 := HP.sep
  have HE1 := HP.ext
  clear HP
  go_wp2_with fail
  refine (spec_l2Run _ _ A bs.length c bs rfl HNN.out _ rfl (askB_of HV.out).1 fn arg 200 (askB_of HV.out).2.1 (askB_of HV.out).2.2.1 (by omega)).mono ?_
  rw [HQ.out]
  rintro e w2 ⟨vt, rfl, ⟨A', n', c', rfl⟩, HP⟩
  have HS2 := HP.sep
  have HE2 := HP.ext
  clear HP
  obtain ⟨t, ht⟩ : ∃ t, toldS q.1 q.2 = t := ⟨_, rfl⟩
  unfold outV
  rw [ht]
  rw [ht] at HX
  clear ht
  by_cases h4 : t.kind = 4
  · have HX2 : Hd (X = two (.int .i64 0) (.bool false)) := ⟨by rw [← HX.out, if_pos h4]⟩
    have h4' : (t.kind == 4) = true := beq_iff_eq.2 h4
    go_wp2
    go_ret2
    rw [HX2.out]
    exact ⟨rfl, Post.mk' (Ent.sep (S := _) (T := S) inferInstance inferInstance) inferInstance⟩
  · have HX2 : Hd (X = two (.int .i64 (q.1.made : Nat)) (.bool true)) := ⟨by rw [← HX.out, if_neg h4]⟩
    have h4' : (t.kind == 4) = false := beq_eq_false_iff_ne.2 h4
    go_wp2
    go_ret2
    rw [HX2.out]
    exact ⟨rfl, Post.mk' (Ent.sep (S := _) (T := S) inferInstance inferInstance) inferInstance⟩
end Go.Proofs.Ythnaoedlnificaa
