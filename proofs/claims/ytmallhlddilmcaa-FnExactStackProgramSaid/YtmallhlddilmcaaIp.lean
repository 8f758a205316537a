/- Valid steps, valid programs: the program's way and the reference's. Conditions: lengths within bounds. -/
import Derived.Test.YtmallhlddilmcaaPe
namespace Go.Proofs.Ytmallhlddilmcaa
open Go.RowKit SL
attribute [local go_sem] cell_blk frozen_blk lt_blk cell_at frozen_row lt_row
set_option linter.unusedVariables false
set_option linter.unusedSimpArgs false

def inB (n lo hi : Int) : Bool := decide (lo ≤ n ∧ n ≤ hi)
theorem inB_true {n lo hi : Int} (h : inB n lo hi = true) : lo ≤ n ∧ n ≤ hi := of_decide_eq_true h
theorem inB_false {n lo hi : Int} (h : inB n lo hi = false) : ¬ (lo ≤ n ∧ n ≤ hi) := of_decide_eq_false h
theorem inB_mk {n lo hi : Int} (h1 : lo ≤ n) (h2 : n ≤ hi) : inB n lo hi = true := decide_eq_true ⟨h1, h2⟩
theorem inB_no1 {n lo hi : Int} (h : ¬ lo ≤ n) : inB n lo hi = false := decide_eq_false fun q => h q.1
theorem inB_no2 {n lo hi : Int} (h : ¬ n ≤ hi) : inB n lo hi = false := decide_eq_false fun q => h q.2

theorem impl_in (n lo hi : Int) (v : Bool) (w : World) (hv : inB n lo hi = v) : Calls Try.prog 57 #[.int .i64 n, .int .i64 lo, .int .i64 hi] w fun e w' => e = .returned (.bool v) ∧ w' = w := by
  subst hv
  by_cases h1 : lo ≤ n
  · by_cases h2 : n ≤ hi
    · rw [inB_mk h1 h2]
      go_enter Try.func57, Try.ntmps57
      go_wp2
      go_ret
      exact ⟨by simp [*], rfl⟩
    · rw [inB_no2 h2]
      go_enter Try.func57, Try.ntmps57
      go_wp2
      go_ret
      exact ⟨by simp [*], rfl⟩
  · rw [inB_no1 h1]
    go_enter Try.func57, Try.ntmps57
    go_wp2
    go_ret
    exact ⟨by simp [*], rfl⟩
theorem impl_isRegister (n : Int) (v : Bool) (w : World) (hv : inB n 0 3 = v) : Calls Try.prog 99 #[.int .i64 n] w fun e w' => e = .returned (.bool v) ∧ w' = w := by
  have HV := Hd.mk hv
  clear hv
  go_enter Try.func99, Try.ntmps99
  go_wp2_with (go_at_call 57; refine (impl_in _ _ _ v _ HV.out).mono ?_; rintro e w' ⟨rfl, rfl⟩)
  go_ret
  exact ⟨rfl, rfl⟩
theorem impl_isNumber (n : Int) (v : Bool) (w : World) (hv : inB n (-32768) 32767 = v) : Calls Try.prog 100 #[.int .i64 n] w fun e w' => e = .returned (.bool v) ∧ w' = w := by
  have HV := Hd.mk hv
  clear hv
  go_enter Try.func100, Try.ntmps100
  go_wp2_with (go_at_call 57; refine (impl_in _ _ _ v _ HV.out).mono ?_; rintro e w' ⟨rfl, rfl⟩)
  go_ret
  exact ⟨rfl, rfl⟩
theorem spec_in (n lo hi : Int) (v : Bool) (w : World) (hv : inB n lo hi = v) : Calls Try.prog 91 #[.int .i64 n, .int .i64 lo, .int .i64 hi] w fun e w' => e = .returned (.bool v) ∧ w' = w := by
  subst hv
  by_cases h1 : lo ≤ n
  · by_cases h2 : n ≤ hi
    · rw [inB_mk h1 h2]
      go_enter Try.func91, Try.ntmps91
      go_wp2
      go_ret
      exact ⟨by simp [*], rfl⟩
    · rw [inB_no2 h2]
      go_enter Try.func91, Try.ntmps91
      go_wp2
      go_ret
      exact ⟨by simp [*], rfl⟩
  · rw [inB_no1 h1]
    go_enter Try.func91, Try.ntmps91
    go_wp2
    go_ret
    exact ⟨by simp [*], rfl⟩
theorem spec_l2Reg (n : Int) (v : Bool) (w : World) (hv : inB n 0 3 = v) : Calls Try.prog 101 #[.int .i64 n] w fun e w' => e = .returned (.bool v) ∧ w' = w := by
  have HV := Hd.mk hv
  clear hv
  go_enter Try.func101, Try.ntmps101
  go_wp2_with (go_at_call 91; refine (spec_in _ _ _ v _ HV.out).mono ?_; rintro e w' ⟨rfl, rfl⟩)
  go_ret
  exact ⟨rfl, rfl⟩
theorem spec_l2Number (n : Int) (v : Bool) (w : World) (hv : inB n (-32768) 32767 = v) : Calls Try.prog 102 #[.int .i64 n] w fun e w' => e = .returned (.bool v) ∧ w' = w := by
  have HV := Hd.mk hv
  clear hv
  go_enter Try.func102, Try.ntmps102
  go_wp2_with (go_at_call 91; refine (spec_in _ _ _ v _ HV.out).mono ?_; rintro e w' ⟨rfl, rfl⟩)
  go_ret
  exact ⟨rfl, rfl⟩
theorem spec_l2Function (S : HP) (A : Option Addr) (c n : Nat) (f : Int) (v : Bool) (w : World) [H : SepI w S] (hn : n ≤ 1048576) (hv : inB f 0 ((n : Int) - 1) = v) :
    Calls Try.prog 103 #[.agg #[.slice A n c], .int .i64 f] w fun e w' => e = .returned (.bool v) ∧ Post w S w' := by
  have HV := Hd.mk hv
  clear hv
  go_enter Try.func103, Try.ntmps103
  go_wp2_with (go_at_call 91; refine (spec_in _ _ _ v _ HV.out).mono ?_; rintro e w' ⟨rfl, rfl⟩)
  go_ret
  exact ⟨rfl, Post.mk' (Ent.sep (S := _) inferInstance inferInstance) inferInstance⟩

/-- A valid step. -/
def stepB (s : St) (n : Nat) : Bool :=
  if s.k = 1 then inB s.a 0 3 && inB s.b (-32768) 32767
  else if s.k = 2 then inB s.a 0 3 && inB s.b 0 3
  else if s.k = 4 ∨ s.k = 5 then inB s.a 0 ((n : Int) - 1) && inB s.b 0 3
  else if s.k = 11 then inB s.a 0 8 && inB s.b 0 3
  else if s.k = 10 then decide (s.a = 0) && decide (s.b = 0)
  else inB s.k 1 13 && (inB s.a 0 3 && decide (s.b = 0))

theorem bne_of {a b : Int} (h : ¬ a = b) : (a == b) = false := by simpa using h
theorem beq_of {a b : Int} (h : a = b) : (a == b) = true := by simpa using h

end Go.Proofs.Ytmallhlddilmcaa
