/- Calls as they are told: compared, marked, held. Conditions: lengths within bounds. -/
import Derived.Test.YtobikkdnalnllaaQb
import Derived.Test.YtobikkdnalnllaaQa
import Derived.StillTailTactics
namespace Go.Proofs.Ytobikkdnalnllaa
open Go.RowKit SL
attribute [local go_sem] cell_blk frozen_blk lt_blk cell_at frozen_row lt_row
set_option linter.unusedVariables false
set_option linter.unusedSimpArgs false

def cC5 (c : C5) : List Value := [.int .i64 c.fn, .int .i64 c.up, .bool c.df, .int .i64 c.en, .int .i64 c.va]
def cC5s (l : List C5) : List Value := l.flatMap cC5
theorem cC5s_len (l : List C5) : (cC5s l).length = l.length * 5 := flat_len (f := cC5) (fun _ => rfl) l
theorem cC5s_append (l m : List C5) : cC5s (l ++ m) = cC5s l ++ cC5s m := by simp [cC5s]
theorem cC5s_get {l : List C5} {k : Nat} {x : C5} (h : l[k]? = some x) : (cC5s l)[k * 5]? = some (.int .i64 x.fn) ∧ (cC5s l)[k * 5 + 1]? = some (.int .i64 x.up) ∧ (cC5s l)[k * 5 + 2]? = some (.bool x.df) ∧ (cC5s l)[k * 5 + 3]? = some (.int .i64 x.en) ∧ (cC5s l)[k * 5 + 4]? = some (.int .i64 x.va) :=
  ⟨flat_get (f := cC5) (k := 5) (fun _ => rfl) h 0 (by omega), flat_get (f := cC5) (k := 5) (fun _ => rfl) h 1 (by omega), flat_get (f := cC5) (k := 5) (fun _ => rfl) h 2 (by omega), flat_get (f := cC5) (k := 5) (fun _ => rfl) h 3 (by omega), flat_get (f := cC5) (k := 5) (fun _ => rfl) h 4 (by omega)⟩
theorem info_c5 : (Try.prog.info? 85).map (fun i => (i.zero, i.size, i.bytes)) = some (some (.agg #[.int .i64 0, .int .i64 0, .bool false, .int .i64 0, .int .i64 0]), 5, 40) := by kernel_rfl
abbrev c5V (c : C5) : Value := .agg #[.int .i64 c.fn, .int .i64 c.up, .bool c.df, .int .i64 c.en, .int .i64 c.va]
/-- The marks of calls. -/
def mkCs (k : Int) : Nat → List C5
  | 0 => []
  | n + 1 => mkCs k n ++ [⟨k + 5 * n, k + 5 * n + 1, (k + 5 * n + 1 + 1) % 3 == 0, k + 5 * n + 1 + 1 + 1, k + 5 * n + 1 + 1 + 1 + 1⟩]
theorem mkCs_len (k : Int) (n : Nat) : (mkCs k n).length = n := by
  induction n with
  | zero => rfl
  | succ n ih => simp [mkCs, ih]
theorem mkCs_get (q : Int) : ∀ {n k : Nat}, k < n → (mkCs q n)[k]? = some ⟨q + 5 * k, q + 5 * k + 1, (q + 5 * k + 1 + 1) % 3 == 0, q + 5 * k + 1 + 1 + 1, q + 5 * k + 1 + 1 + 1 + 1⟩
  | 0, k, h => by omega
  | n + 1, k, h => by
    by_cases hk : k < n
    · rw [mkCs, List.getElem?_append_left (by rw [mkCs_len]; exact hk)]; exact mkCs_get q hk
    · have : k = n := by omega
      subst this
      rw [mkCs, List.getElem?_append_right (by rw [mkCs_len]; exact Nat.le_refl _), mkCs_len, Nat.sub_self]
      rfl
theorem cC5s_upd (d r : List C5) (y x : C5) (k : Nat) (h : d.length = k) :
    (((((cC5s (d ++ y :: r)).set (k * 5) (.int .i64 x.fn)).set (k * 5 + 1) (.int .i64 x.up)).set (k * 5 + 2) (.bool x.df)).set (k * 5 + 3) (.int .i64 x.en)).set (k * 5 + 4) (.int .i64 x.va) = cC5s ((d ++ [x]) ++ r) := by
  have hl : (cC5s d).length = k * 5 := by rw [cC5s_len, h]
  rw [cC5s_append, cC5s_append, cC5s_append]
  rw [List.set_append_right _ _ (by omega), List.set_append_right _ _ (by omega), List.set_append_right _ _ (by omega), List.set_append_right _ _ (by omega), List.set_append_right _ _ (by omega), hl, Nat.sub_self, Nat.add_sub_cancel_left, Nat.add_sub_cancel_left, Nat.add_sub_cancel_left, Nat.add_sub_cancel_left, List.append_assoc]
  rfl
end Go.Proofs.Ytobikkdnalnllaa
