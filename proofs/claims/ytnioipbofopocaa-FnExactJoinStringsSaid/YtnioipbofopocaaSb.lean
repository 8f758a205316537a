/- Slices of strings: their size, copy, comparison. Conditions: lengths within bounds. -/
import Derived.Test.YtnioipbofopocaaSa
namespace Go.Proofs.Ytnioipbofopocaa
open Go.RowKit SL
attribute [local go_sem] cell_blk frozen_blk lt_blk cell_at frozen_row lt_row
set_option linter.unusedVariables false
set_option linter.unusedSimpArgs false

def strs (l : List ByteArray) : List Value := l.map Value.string
theorem strs_len (l : List ByteArray) : (strs l).length = l.length := by simp [strs]
theorem strs_get {l : List ByteArray} {k : Nat} {x : ByteArray} (h : l[k]? = some x) : (strs l)[k]? = some (.string x) := by simp [strs, h]
theorem strs_append (l m : List ByteArray) : strs (l ++ m) = strs l ++ strs m := by simp [strs]
theorem strs_set (l : List ByteArray) (k : Nat) (x : ByteArray) : (strs l).set k (.string x) = strs (l.set k x) := by simp [strs, List.map_set]
/-- How many bytes strings hold. -/
def bytesN : List ByteArray → Nat
  | [] => 0
  | x :: l => x.size + bytesN l
theorem bytesN_append (l m : List ByteArray) : bytesN (l ++ m) = bytesN l + bytesN m := by
  induction l with
  | nil => simp [bytesN]
  | cons x l ih => simp only [List.cons_append, bytesN, ih]; omega
theorem bytesN_next {l : List ByteArray} {k : Nat} {x : ByteArray} (h : l[k]? = some x) : bytesN (l.take (k + 1)) = bytesN (l.take k) + x.size := by
  rw [take_succ_eq h, bytesN_append]; simp [bytesN]
theorem bytesN_take (l : List ByteArray) (k : Nat) : bytesN (l.take k) ≤ bytesN l := by
  have := bytesN_append (l.take k) (l.drop k)
  rw [List.take_append_drop] at this
  omega
theorem bytesN_at {l : List ByteArray} {k : Nat} {x : ByteArray} (h : l[k]? = some x) : x.size ≤ bytesN l := by
  have h1 := bytesN_next h
  have h2 := bytesN_take l (k + 1)
  omega
/-- Every string's size is an int. -/
def SmS (l : List ByteArray) : Prop := ∀ x ∈ l, x.size ≤ 9223372036854775807
set_option maxRecDepth 100000 in
set_option maxHeartbeats 4000000 in
theorem szStringS (S : HP) (w : World) [H : SepI w S] (A : Option Addr) (c : Nat) (l : List ByteArray) [r : Rd S A (strs l)] (hn : l.length ≤ maxLen) (hs : SmS l) (left : Int) (h0 : 0 ≤ left) (h1 : left ≤ 1048576) :
    Calls Try.prog 4 #[.slice A l.length c, .int .i64 left] w fun e w' => ∃ q : Int, e = .returned (.int .i64 q) ∧ w' = w ∧ (q < 0 ∨ (0 ≤ q ∧ (bytesN l : Int) + l.length ≤ left)) := by
  unfold maxLen at hn
  obtain ⟨n, hn'⟩ : ∃ n, n = l.length := ⟨_, rfl⟩
  have HN := Hd.mk hn'
  rw [← hn'] at hn ⊢
  have HS := Hd.mk hs
  obtain ⟨L, hL⟩ : ∃ L : Nat → Int, L = fun i => left - n - (bytesN (l.take i) : Int) := ⟨_, rfl⟩
  have hL0 : L 0 = left - n := by rw [hL]; simp [bytesN]
  have HL0 := Hd.mk hL0
  have HLY : Hd (∀ (i : Nat) (x : ByteArray), l[i]? = some x → L (i + 1) = L i - (x.size : Int)) := ⟨fun i x h => by rw [hL]; simp only; rw [bytesN_next h]; omega⟩
  have HLN : Hd (0 ≤ L n → (bytesN l : Int) + n ≤ left) := ⟨fun h => by rw [hL] at h; simp only at h; rw [hn', List.take_length] at h; omega⟩
  have HLB : Hd (∀ i, L i ≤ left) := ⟨fun i => by rw [hL]; simp only; omega⟩
  clear hn' hs hL
  have hw0 : IntKind.i64.wrap (left - n) = L 0 := by rw [hL0]; exact IntWalk.i64_in _ (by omega)
  by_cases hneg : left - n < 0
  · have hneg2 : L 0 < 0 := by omega
    clear hL0 hneg
    go_enter Try.func4, Try.ntmps4
    go_wp2
    go_ret
    exact ⟨-1, rfl, rfl, .inl (by omega)⟩
  · have hpos : 0 ≤ L 0 := by omega
    clear hL0 hneg
    go_enter Try.func4, Try.ntmps4
    go_wp2
    go_loopw [1, 5] (fun v1 v5 wr => ∃ i : Nat, i ≤ n ∧ v5 = .int .i64 i ∧ v1 = .int .i64 (L i) ∧ 0 ≤ L i ∧ wr = w) (fun _ v _ => n - (intOf v).toNat)
    case atStart => exact ⟨0, Nat.zero_le _, rfl, rfl, hpos, by first | trivial | rfl⟩
    case round =>
      obtain ⟨i, hi, rfl, rfl, hpi, rfl⟩ := hrel
      by_cases hlt : i < n
      · obtain ⟨x, hx⟩ := get_ex (xs := l) (k := i) (by rw [← HN.out]; exact hlt)
        obtain ⟨b, off, rfl⟩ := r.addr H (j := i) (by rw [strs_len, ← HN.out]; exact hlt)
        have c1 := r.cell (strs_get hx)
        have hxs := HS.out x (List.mem_of_getElem? hx)
        have hlb := HLB.out i
        have hnx := HLY.out i x hx
        have hw : IntKind.i64.wrap (L i - (x.size : Int)) = L (i + 1) := by rw [hnx]; exact IntWalk.i64_in _ (by omega)
        clear hx hnx
        by_cases hq : L (i + 1) < 0
        · go_wp2
          go_ret
          exact ⟨-1, rfl, by first | trivial | rfl, .inl (by omega)⟩
        · have hq' : 0 ≤ L (i + 1) := by omega
          go_wp2
          go_roundw
          case rel => exact ⟨i + 1, by omega, by go_num, rfl, hq', by first | trivial | rfl⟩
          case measure => (simp [intOf]; try omega)
      · have : i = n := by omega
        subst this
        go_wp2
        go_ret
        exact ⟨L i, rfl, by first | trivial | rfl, .inr ⟨hpi, HLN.out hpi⟩⟩
theorem info_string : (Try.prog.info? 9).map (fun i => (i.zero, i.size, i.bytes)) = some (some (.string ByteArray.empty), 1, 16) := by kernel_rfl
theorem strs_zeros (n : Nat) : (List.replicate n (Value.string ByteArray.empty).cells.toList).flatten = strs (List.replicate n ByteArray.empty) := by
  induction n with
  | zero => rfl
  | succ n ih => rw [List.replicate_succ, List.replicate_succ, List.flatten_cons, ih]; rfl
theorem strs_upd (d r : List ByteArray) (y x : ByteArray) (k : Nat) (h : d.length = k) : (strs (d ++ y :: r)).set k (.string x) = strs ((d ++ [x]) ++ r) := by
  have hl : (strs d).length = k := by rw [strs_len, h]
  rw [strs_append, strs_append, strs_append, List.set_append_right _ _ (by omega), hl, Nat.sub_self, List.append_assoc]
  rfl
set_option maxRecDepth 100000 in
set_option maxHeartbeats 4000000 in
theorem toStringS (S : HP) (w : World) [H : SepI w S] (A : Option Addr) (c : Nat) (l : List ByteArray) [r : Rd S A (strs l)] (hn : l.length ≤ 1048576) :
    Calls Try.prog 6 #[.slice A l.length c] w fun e w' => ∃ g, e = .returned (.slice (some ⟨g, 0, none⟩) l.length l.length) ∧
      Post w (Row 9 1 (.slice (some ⟨g, 0, none⟩) l.length l.length) l.length (strs l) * S) w' := by
  obtain ⟨n, hn'⟩ : ∃ n, n = l.length := ⟨_, rfl⟩
  have HN := Hd.mk hn'
  rw [← hn'] at hn ⊢
  clear hn'
  go_enter Try.func6, Try.ntmps6
  go_wp2_with (refine ev_make rfl 22 _ _ rfl n rfl rfl 9 1 16 _ Try.underlying22 info_string rfl (by decide) (by decide) (by omega) ?_; rw [strs_zeros]; intro g w1 HS1 HE1)
  go_loopw [4] (fun i wr => ∃ k : Nat, k ≤ n ∧ i = .int .i64 k ∧ ExtI w wr ∧
    SepI wr (Row 9 1 (.slice (some ⟨g, 0, none⟩) n n) n (strs (l.take k ++ List.replicate (n - k) ByteArray.empty)) * S)) (fun i _ => n - (intOf i).toNat)
  case atStart => exact ⟨0, Nat.zero_le _, rfl, inferInstance, by simpa using HS1⟩
  case round =>
    obtain ⟨k, hk, rfl, HX, HS⟩ := hrel
    by_cases hlt : k < n
    · obtain ⟨x, hx⟩ := get_ex (xs := l) (k := k) (by rw [← HN.out]; exact hlt)
      obtain ⟨b, off, rfl⟩ := r.addr H (j := k) (by rw [strs_len, ← HN.out]; omega)
      have c1 := r.cell (strs_get hx)
      have hz : (l.take k ++ List.replicate (n - k) ByteArray.empty)[k]? = some ByteArray.empty := by
        rw [List.getElem?_append_right (by rw [List.length_take, Nat.min_eq_left (by have := HN.out; omega)]; omega), List.getElem?_replicate, if_pos (by rw [List.length_take, Nat.min_eq_left (by have := HN.out; omega)]; omega)]
      have d1 : CellAt _ g _ _ := Row.cellAt (e := 9) (size := 1) (g := g) (n := n) (c := n) (F := S) (strs_get hz)
      have HG := Hd.mk hx
      clear hx hz
      go_wp2
      go_roundw
      case rel => exact ⟨k + 1, by omega, by go_num, inferInstance, SepI.cast inferInstance (by
        rw [show n - k = (n - (k + 1)) + 1 from by omega, List.replicate_succ, strs_upd (l.take k) _ ByteArray.empty x k (by rw [List.length_take, Nat.min_eq_left (by have := HN.out; omega)]), take_succ_eq HG.out])⟩
      case measure => (simp [intOf]; omega)
    · have : k = n := by omega
      subst this
      go_wp2
      go_ret
      exact ⟨g, rfl, Post.mk' (by rw [Nat.sub_self, HN.out, List.take_length, List.replicate_zero, List.append_nil, ← HN.out] at HS; exact HS) HX⟩
set_option maxRecDepth 100000 in
set_option maxHeartbeats 4000000 in
theorem eqStringS (S : HP) (w : World) [H : SepI w S] (A B : Option Addr) (ca cb : Nat) (xs : List ByteArray) [ra : Rd S A (strs xs)] [rb : Rd S B (strs xs)] (hx : xs.length ≤ maxLen) :
    Calls Try.prog 8 #[.slice A xs.length ca, .slice B xs.length cb] w fun e w' => e = .returned (.bool true) ∧ Post w S w' := by
  unfold maxLen at hx
  obtain ⟨n, hn⟩ : ∃ n, n = xs.length := ⟨_, rfl⟩
  rw [← hn]
  rw [← hn] at hx
  have HN := Hd.mk hn
  clear hn
  go_enter Try.func8, Try.ntmps8
  go_wp2
  go_loopw [5] (fun i wr => ∃ k : Nat, k ≤ n ∧ i = .int .i64 k ∧ Hd (∃ m, wr = w.drewN m)) (fun i _ => n - (intOf i).toNat)
  case atStart => exact ⟨0, Nat.zero_le _, rfl, ⟨0, rfl⟩⟩
  case round =>
    obtain ⟨k, hk, rfl, ⟨⟨m, rfl⟩⟩⟩ := hrel
    by_cases hlt : k < n
    · obtain ⟨x, hx'⟩ := get_ex (xs := xs) (k := k) (by rw [← HN.out]; exact hlt)
      obtain ⟨b, off, rfl⟩ := ra.addr H (j := k) (by rw [strs_len, ← HN.out]; exact hlt)
      obtain ⟨b', off', rfl⟩ := rb.addr H (j := k) (by rw [strs_len, ← HN.out]; exact hlt)
      have c1 := ra.cell (strs_get hx')
      have c2 := rb.cell (strs_get hx')
      clear hx'
      go_wp2
      go_quiet (fail)
      go_wp2
      go_roundw
      case rel => exact ⟨k + 1, by omega, by go_num, ⟨⟨_, rfl⟩⟩⟩
      case measure => (simp [intOf]; omega)
    · have : k = n := by omega
      subst this
      go_wp2
      go_ret
      exact ⟨rfl, Post.mk' inferInstance inferInstance⟩
end Go.Proofs.Ytnioipbofopocaa
