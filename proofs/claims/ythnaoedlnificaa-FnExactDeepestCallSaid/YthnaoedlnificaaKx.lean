/- DeepestCall and FuelOf: both answer the same. Conditions: lengths within bounds. -/
import Derived.Test.YthnaoedlnificaaKw
import Derived.Test.YthnaoedlnificaaNt
namespace Go.Proofs.Ythnaoedlnificaa
open Go.RowKit SL
set_option linter.unusedVariables false
set_option linter.unusedSimpArgs false

def deepAns (L : List (List St)) (fn arg fuel : Int) : Int × Bool := if askB L fn arg fuel then (((ranM L fn arg fuel.toNat).m.deepest : Int), true) else (0, false)
def fuelAns (L : List (List St)) (fn arg : Int) : Int × Bool := if askB L fn arg 0 then (if (ranM L fn arg 200).kind = 4 then (0, false) else (((ranM L fn arg 200).m.made : Int), true)) else (0, false)
/-- An integer and whether there is one. -/
def IntA (S : HP) (a : Int × Bool) (w : World) (e : Ending) (w' : World) : Prop := e = two (.int .i64 a.1) (.bool a.2) ∧ Post w S w'
theorem deep_yes {L : List (List St)} {fn arg : Int} {fu : Nat} (h : askB L fn arg fu = true) : deepAns L fn arg fu = (((ranM L fn arg fu).m.deepest : Int), true) := by unfold deepAns; rw [if_pos h]; rfl
theorem deep_no {L : List (List St)} {fn arg fuel : Int} (h : askB L fn arg fuel = false) : deepAns L fn arg fuel = (0, false) := by unfold deepAns; rw [if_neg (by rw [h]; exact Bool.false_ne_true)]
theorem fuel_no {L : List (List St)} {fn arg : Int} (h : askB L fn arg 0 = false) : fuelAns L fn arg = (0, false) := by unfold fuelAns; rw [if_neg (by rw [h]; exact Bool.false_ne_true)]
theorem impl_DeepestCallA (S : HP) (w : World) [H : SepI w S] (A : Option Addr) (c : Nat) (bs : List Bd) [r : Rd S A (cBds bs)] [B : Bodies S bs] (fn arg fuel : Int) :
    Calls Try.prog 25 #[.agg #[.slice A bs.length c], .int .i64 fn, .int .i64 arg, .int .i64 fuel] w (IntA S (deepAns (bs.map (·.l)) fn arg fuel) w) := by
  obtain ⟨v, hv⟩ : ∃ v, askB (bs.map (·.l)) fn arg fuel = v := ⟨_, rfl⟩
  cases v
  · rw [deep_no hv]; exact impl_DeepestCallN S w A c bs fn arg fuel hv
  · obtain ⟨fu, rfl⟩ : ∃ fu : Nat, fuel = fu := ⟨fuel.toNat, by have := (askB_of hv).2.2.2.1; omega⟩
    rw [deep_yes hv]; exact impl_DeepestCall S w A c bs fn arg fu _ rfl hv
theorem spec_DeepestCallA (S : HP) (w : World) [H : SepI w S] (A : Option Addr) (c : Nat) (bs : List Bd) [r : Rd S A (cBds bs)] [B : Bodies S bs] (hnn : NoneNil bs) (fn arg fuel : Int) :
    Calls Try.prog 24 #[.agg #[.slice A bs.length c], .int .i64 fn, .int .i64 arg, .int .i64 fuel] w (IntA S (deepAns (bs.map (·.l)) fn arg fuel) w) := by
  obtain ⟨v, hv⟩ : ∃ v, askB (bs.map (·.l)) fn arg fuel = v := ⟨_, rfl⟩
  cases v
  · rw [deep_no hv]; exact spec_DeepestCallN S w A c bs fn arg fuel hv
  · obtain ⟨fu, rfl⟩ : ∃ fu : Nat, fuel = fu := ⟨fuel.toNat, by have := (askB_of hv).2.2.2.1; omega⟩
    obtain ⟨hL, h1, h2, h3, h4⟩ := askB_of hv
    rw [deep_yes hv, ← (joined hL h1 h2 fu).deep]
    exact spec_DeepestCall S w A c bs hnn fn arg fu hv
theorem impl_FuelOfA (S : HP) (w : World) [H : SepI w S] (A : Option Addr) (c : Nat) (bs : List Bd) [r : Rd S A (cBds bs)] [B : Bodies S bs] (fn arg : Int) :
    Calls Try.prog 27 #[.agg #[.slice A bs.length c], .int .i64 fn, .int .i64 arg] w (IntA S (fuelAns (bs.map (·.l)) fn arg) w) := by
  obtain ⟨v, hv⟩ : ∃ v, askB (bs.map (·.l)) fn arg 0 = v := ⟨_, rfl⟩
  cases v
  · have hv2 : askB (bs.map (·.l)) fn arg 200 = false := by
      cases h : askB (bs.map (·.l)) fn arg 200 with
      | false => rfl
      | true => rw [askB_fuel h (by decide)] at hv; cases hv
    rw [fuel_no hv]; exact impl_FuelOfN S w A c bs fn arg hv2
  · have hv2 : askB (bs.map (·.l)) fn arg (200 : Nat) = true := askB_fuel hv (by decide)
    refine (impl_FuelOf S w A c bs fn arg _ rfl hv2).mono ?_
    rintro e w' ⟨rfl, hp⟩
    refine ⟨?_, hp⟩
    unfold fuelAns
    rw [if_pos hv]
    split <;> rfl
theorem spec_FuelOfA (S : HP) (w : World) [H : SepI w S] (A : Option Addr) (c : Nat) (bs : List Bd) [r : Rd S A (cBds bs)] [B : Bodies S bs] (hnn : NoneNil bs) (fn arg : Int) :
    Calls Try.prog 26 #[.agg #[.slice A bs.length c], .int .i64 fn, .int .i64 arg] w (IntA S (fuelAns (bs.map (·.l)) fn arg) w) := by
  obtain ⟨v, hv⟩ : ∃ v, askB (bs.map (·.l)) fn arg 0 = v := ⟨_, rfl⟩
  cases v
  · rw [fuel_no hv]; exact spec_FuelOfN S w A c bs fn arg hv
  · obtain ⟨hL, h1, h2, h3, h4⟩ := askB_of hv
    refine (spec_FuelOf S w A c bs hnn fn arg hv).mono ?_
    have J := joined hL h1 h2 200
    rw [J.kind, J.made]
    rintro e w' ⟨rfl, hp⟩
    refine ⟨?_, hp⟩
    unfold fuelAns
    rw [if_pos hv]
    split <;> rfl
end Go.Proofs.Ythnaoedlnificaa
