/- RunProgram: both ways answer the same. Conditions: lengths within bounds. -/
import Derived.Test.YthnaoedlnificaaKv
import Derived.Test.YthnaoedlnificaaYb
import Derived.Test.YthnaoedlnificaaBe
namespace Go.Proofs.Ythnaoedlnificaa
open Go.RowKit SL
attribute [local go_sem] cell_blk frozen_blk lt_blk cell_at frozen_row lt_row
set_option linter.unusedVariables false
set_option linter.unusedSimpArgs false

/-- An outcome beside a bool. -/
def OutOk (S : HP) (x : Int × Int × Int × List Ev) (ok : Bool) (w : World) (e : Ending) (w' : World) : Prop := ∃ A c, e = two (.agg #[.int .i64 x.1, .int .i64 x.2.1, .slice A x.2.2.2.length c, .int .i64 x.2.2.1]) (.bool ok) ∧ Post w (Row 94 3 (.slice A x.2.2.2.length c) x.2.2.2.length (cEvs x.2.2.2) * S) w'
def ok_RunProgram (L : List (List St)) (fn arg fuel : Int) : Bool := askB L fn arg fuel
def ans_RunProgram (L : List (List St)) (fn arg fuel : Int) : Int × Int × Int × List Ev := if askB L fn arg fuel then ((ranM L fn arg fuel.toNat).kind, (ranM L fn arg fuel.toNat).val, ((ranM L fn arg fuel.toNat).m.made : Int), (ranM L fn arg fuel.toNat).m.trace) else (0, 0, 0, [])
theorem ans_RunProgram_yes {L : List (List St)} {fn arg : Int} {fu : Nat} (h : askB L fn arg fu = true) : ans_RunProgram L fn arg fu = ((ranM L fn arg fu).kind, (ranM L fn arg fu).val, ((ranM L fn arg fu).m.made : Int), (ranM L fn arg fu).m.trace) := by unfold ans_RunProgram; rw [if_pos h]; rfl
theorem ans_RunProgram_no {L : List (List St)} {fn arg fuel : Int} (h : askB L fn arg fuel = false) : ans_RunProgram L fn arg fuel = (0, 0, 0, []) := by unfold ans_RunProgram; rw [h]; rfl
theorem small_RunProgram (L : List (List St)) (fn arg fuel : Int) : (ans_RunProgram L fn arg fuel).2.2.2.length ≤ 1048576 := by
  obtain ⟨v, hv⟩ : ∃ v, askB L fn arg fuel = v := ⟨_, rfl⟩
  cases v
  · rw [ans_RunProgram_no hv]; simp
  · obtain ⟨fu, rfl⟩ : ∃ fu : Nat, fuel = fu := ⟨fuel.toNat, by have := (askB_of hv).2.2.2.1; omega⟩
    rw [ans_RunProgram_yes hv]
    have hts := (factsB hv).ts
    show (ranM L fn arg fu).m.trace.length ≤ _
    omega
theorem OutOk.zero {S : HP} {w w' : World} (h : Post w S w') : OutOk S (0, 0, 0, []) false w (two (.agg #[.int .i64 0, .int .i64 0, .slice none 0 0, .int .i64 0]) (.bool false)) w' := ⟨none, 0, rfl, ⟨Row.nil0 h.sep 94 3, h.ext⟩⟩
theorem impl_RunProgramA (S : HP) (w : World) [H : SepI w S] (A : Option Addr) (c : Nat) (bs : List Bd) [r : Rd S A (cBds bs)] [B : Bodies S bs] (fn arg fuel : Int) :
    Calls Try.prog 18 #[.agg #[.slice A bs.length c], .int .i64 fn, .int .i64 arg, .int .i64 fuel] w (OutOk S (ans_RunProgram (bs.map (·.l)) fn arg fuel) (ok_RunProgram (bs.map (·.l)) fn arg fuel) w) := by
  obtain ⟨v, hv⟩ : ∃ v, askB (bs.map (·.l)) fn arg fuel = v := ⟨_, rfl⟩
  have e : ok_RunProgram (bs.map (·.l)) fn arg fuel = v := hv
  rw [e]
  cases v
  · rw [ans_RunProgram_no hv]
    refine (impl_RunProgramN S w A c bs fn arg fuel hv).mono ?_
    rintro e w' ⟨rfl, h⟩
    exact OutOk.zero h
  · obtain ⟨fu, rfl⟩ : ∃ fu : Nat, fuel = fu := ⟨fuel.toNat, by have := (askB_of hv).2.2.2.1; omega⟩
    rw [ans_RunProgram_yes hv]
    refine (impl_RunProgram S w A c bs fn arg fu _ rfl hv).mono ?_
    rintro e w' ⟨A1, c1, rfl, h⟩
    exact ⟨A1, c1, rfl, h⟩
theorem spec_RunProgramA (S : HP) (w : World) [H : SepI w S] (A : Option Addr) (c : Nat) (bs : List Bd) [r : Rd S A (cBds bs)] [B : Bodies S bs] (hnn : NoneNil bs) (fn arg fuel : Int) :
    Calls Try.prog 16 #[.agg #[.slice A bs.length c], .int .i64 fn, .int .i64 arg, .int .i64 fuel] w (OutOk S (ans_RunProgram (bs.map (·.l)) fn arg fuel) (ok_RunProgram (bs.map (·.l)) fn arg fuel) w) := by
  obtain ⟨v, hv⟩ : ∃ v, askB (bs.map (·.l)) fn arg fuel = v := ⟨_, rfl⟩
  have e : ok_RunProgram (bs.map (·.l)) fn arg fuel = v := hv
  rw [e]
  cases v
  · rw [ans_RunProgram_no hv]
    refine (spec_RunProgramN S w A c bs fn arg fuel hv).mono ?_
    rintro e w' ⟨rfl, h⟩
    exact OutOk.zero h
  · obtain ⟨fu, rfl⟩ : ∃ fu : Nat, fuel = fu := ⟨fuel.toNat, by have := (askB_of hv).2.2.2.1; omega⟩
    obtain ⟨hL, h1, h2, h3, h4⟩ := askB_of hv
    have J := joined hL h1 h2 fu
    rw [ans_RunProgram_yes hv]
    refine (spec_RunProgram S w A c bs fn arg fu hnn hv).mono ?_
    rintro e w' ⟨A1, n1, c1, rfl, h⟩
    rw [J.trace] at h
    obtain ⟨A2, c2, hv2, _⟩ := Row.form h.sep
    injection hv2 with e1 e2 e3
    subst e1 e2 e3
    refine ⟨_, _, ?_, h⟩
    show two (.agg #[.int .i64 _, .int .i64 _, _, .int .i64 _]) _ = _
    rw [J.kind, J.val, J.made]
end Go.Proofs.Ythnaoedlnificaa
