/- Slices of strings: their size, copy, comparison. Conditions: lengths within bounds. -/
import Derived.Test.YtnioipbofopocaaDoorSa
namespace Go.Proofs.YtnioipbofopocaaDoor
open Go.RowKit SL
attribute [local go_sem] cell_blk frozen_blk lt_blk cell_at frozen_row lt_row
set_option linter.unusedVariables false
set_option linter.unusedSimpArgs false

def strs (l : List ByteArray) : List Value := l.map Value.string
theorem strs_len (l : List ByteArray) : (strs l).length = l.length := by simp [strs]
theorem strs_get {l : List ByteArray} {k : Nat} {x : ByteArray} (h : l[k]? = some x) : (strs l)[k]? = some (.string x) := by simp [strs, h]
theorem strs_append (l m : List ByteArray) : strs (l ++ m) = strs l ++ strs m := by simp [strs]
theorem strs_set (l : List ByteArray) (k : Nat) (x : ByteArray) : (strs l).set k (.string x) = strs (l.set k x) := by simp [strs, List.map_set]
/-- How many bytes strings hold. -/
def bytesN : List ByteArray → Nat
  | [] => 0
  | x :: l => x.size + bytesN l
theorem bytesN_append (l m : List ByteArray) : bytesN (l ++ m) = bytesN l + bytesN m := by
  induction l with
  | nil => simp [bytesN]
  | cons x l ih => simp only [List.cons_append, bytesN, ih]; omega
theorem bytesN_next {l : List ByteArray} {k : Nat} {x : ByteArray} (h : l[k]? = some x) : bytesN (l.take (k + 1)) = bytesN (l.take k) + x.size := by
  rw [take_succ_eq h, bytesN_append]; simp [bytesN]
theorem bytesN_take (l : List ByteArray) (k : Nat) : bytesN (l.take k) ≤ bytesN l := by
  have := bytesN_append (l.take k) (l.drop k)
  rw [List.take_append_drop] at this
  omega
theorem bytesN_at {l : List ByteArray} {k : Nat} {x : ByteArray} (h : l[k]? = some x) : x.size ≤ bytesN l := by
  have h1 := bytesN_next h
  have h2 := bytesN_take l (k + 1)
  omega
/-- Every string's size is an int. -/
def SmS (l : List ByteArray) : Prop := ∀ x ∈ l, x.size ≤ 9223372036854775807
theorem info_string : (Tryd.prog.info? 9).map (fun i => (i.zero, i.size, i.bytes)) = some (some (.string ByteArray.empty), 1, 16) := by kernel_rfl
theorem strs_zeros (n : Nat) : (List.replicate n (Value.string ByteArray.empty).cells.toList).flatten = strs (List.replicate n ByteArray.empty) := by
  induction n with
  | zero => rfl
  | succ n ih => rw [List.replicate_succ, List.replicate_succ, List.flatten_cons, ih]; rfl
theorem strs_upd (d r : List ByteArray) (y x : ByteArray) (k : Nat) (h : d.length = k) : (strs (d ++ y :: r)).set k (.string x) = strs ((d ++ [x]) ++ r) := by
  have hl : (strs d).length = k := by rw [strs_len, h]
  rw [strs_append, strs_append, strs_append, List.set_append_right _ _ (by omega), hl, Nat.sub_self, List.append_assoc]
  rfl
set_option maxRecDepth 100000 in
set_option maxHeartbeats 4000000 in
theorem eqStringS (S : HP) (w : World) [H : SepI w S] (A B : Option Addr) (ca cb : Nat) (xs : List ByteArray) [ra : Rd S A (strs xs)] [rb : Rd S B (strs xs)] (hx : xs.length ≤ maxLen) :
    Calls Tryd.prog 15 #[.slice A xs.length ca, .slice B xs.length cb] w fun e w' => e = .returned (.bool true) ∧ Post w S w' := by
  unfold maxLen at hx
  obtain ⟨n, hn⟩ : ∃ n, n = xs.length := ⟨_, rfl⟩
  rw [← hn]
  rw [← hn] at hx
  have HN := Hd.mk hn
  clear hn
  go_enter Tryd.func15, Tryd.ntmps15
  go_wp2
  go_loopw [5] (fun i wr => ∃ k : Nat, k ≤ n ∧ i = .int .i64 k ∧ Hd (∃ m, wr = w.drewN m)) (fun i _ => n - (intOf i).toNat)
  case atStart => exact ⟨0, Nat.zero_le _, rfl, ⟨0, rfl⟩⟩
  case round =>
    obtain ⟨k, hk, rfl, ⟨⟨m, rfl⟩⟩⟩ := hrel
    by_cases hlt : k < n
    · obtain ⟨x, hx'⟩ := get_ex (xs := xs) (k := k) (by rw [← HN.out]; exact hlt)
      obtain ⟨b, off, rfl⟩ := ra.addr H (j := k) (by rw [strs_len, ← HN.out]; exact hlt)
      obtain ⟨b', off', rfl⟩ := rb.addr H (j := k) (by rw [strs_len, ← HN.out]; exact hlt)
      have c1 := ra.cell (strs_get hx')
      have c2 := rb.cell (strs_get hx')
      clear hx'
      go_wp2
      go_quiet (fail)
      go_wp2
      go_roundw
      case rel => exact ⟨k + 1, by omega, by go_num, ⟨⟨_, rfl⟩⟩⟩
      case measure => (simp [intOf]; omega)
    · have : k = n := by omega
      subst this
      go_wp2
      go_ret
      exact ⟨rfl, Post.mk' inferInstance inferInstance⟩
end Go.Proofs.YtnioipbofopocaaDoor
