/- Slices of ints: their size, copy, comparison, marks. Conditions: lengths within bounds. -/
import Derived.Test.YtnioipbofopocaaDoorProg
import Derived.Test.YtnioipbofopocaaDoorSlr
namespace Go.Proofs.YtnioipbofopocaaDoor
open Go.RowKit SL
attribute [local go_sem] cell_blk frozen_blk lt_blk cell_at frozen_row lt_row
set_option linter.unusedVariables false
set_option linter.unusedSimpArgs false

theorem ne_of_get' {α : Type} {xs ys : List α} {k : Nat} {x y : α} (h : xs[k]? = some x) (h' : ys[k]? = some y) (hn : x ≠ y) : xs ≠ ys := by
  rintro rfl
  rw [h] at h'
  exact hn (Option.some.inj h')
set_option maxHeartbeats 1000000 in
theorem eqIntS (S : HP) (w : World) [H : SepI w S] (A B : Option Addr) (ca cb : Nat) (xs ys : List Int) [ra : Rd S A (ints xs)] [rb : Rd S B (ints ys)] (hx : xs.length ≤ maxLen) (hy : ys.length ≤ maxLen) :
    Calls Tryd.prog 116 #[.slice A xs.length ca, .slice B ys.length cb] w fun e w' => e = .returned (.bool (decide (xs = ys))) ∧ Post w S w' := by
  unfold maxLen at hx hy
  by_cases hl : xs.length = ys.length
  · obtain ⟨n, hn⟩ : ∃ n, n = xs.length := ⟨_, rfl⟩
    have hn' : n = ys.length := hn.trans hl
    rw [← hn', ← hn]
    rw [← hn] at hx
    have HN := Hd.mk hn
    have HN' := Hd.mk hn'
    clear hl hn hn' hy
    go_enter Tryd.func116, Tryd.ntmps116
    go_wp2
    go_loopw [5] (fun i wr => ∃ k : Nat, k ≤ n ∧ i = .int .i64 k ∧ Hd (xs.take k = ys.take k) ∧ Hd (∃ m, wr = w.drewN m)) (fun i _ => n - (intOf i).toNat)
    case atStart => exact ⟨0, Nat.zero_le _, rfl, ⟨rfl⟩, ⟨0, rfl⟩⟩
    case round =>
      obtain ⟨k, hk, rfl, HT, ⟨⟨m, rfl⟩⟩⟩ := hrel
      by_cases hlt : k < n
      · obtain ⟨x, hx'⟩ := get_ex (xs := xs) (k := k) (by rw [← HN.out]; exact hlt)
        obtain ⟨y, hy'⟩ := get_ex (xs := ys) (k := k) (by rw [← HN'.out]; exact hlt)
        obtain ⟨b, off, rfl⟩ := ra.addr H (j := k) (by rw [ints_len, ← HN.out]; exact hlt)
        obtain ⟨b', off', rfl⟩ := rb.addr H (j := k) (by rw [ints_len, ← HN'.out]; exact hlt)
        have c1 := ra.cell (ints_get hx')
        have c2 := rb.cell (ints_get hy')
        have HX := Hd.mk hx'
        have HY := Hd.mk hy'
        clear hx' hy'
        by_cases hxy : x = y
        · subst hxy
          go_wp2
          go_quiet (fail)
          go_wp2
          go_roundw
          case rel => exact ⟨k + 1, by omega, by go_num, ⟨by rw [take_succ_eq HX.out, take_succ_eq HY.out, HT.out]⟩, ⟨⟨_, rfl⟩⟩⟩
          case measure => simp [intOf]; omega
        · go_wp2
          go_quiet (fail)
          go_wp2
          go_ret
          exact ⟨ret_b (decide_eq_false (ne_of_get' HX.out HY.out hxy)).symm, Post.mk' inferInstance inferInstance⟩
      · have : k = n := by omega
        subst this
        go_wp2
        go_ret
        exact ⟨ret_b (decide_eq_true (by have := HT.out; rwa [HN.out, List.take_length, ← HN.out, HN'.out, List.take_length] at this)).symm, Post.mk' inferInstance inferInstance⟩
  · go_enter Tryd.func116, Tryd.ntmps116
    go_wp2
    go_ret
    exact ⟨ret_b (decide_eq_false (fun h => hl (by rw [h]))).symm, Post.mk' inferInstance inferInstance⟩

theorem info_int : (Tryd.prog.info? 3).map (fun i => (i.zero, i.size, i.bytes)) = some (some (.int .i64 0), 1, 8) := by kernel_rfl
theorem ints_zeros (n : Nat) : (List.replicate n (Value.int .i64 0).cells.toList).flatten = ints (List.replicate n 0) := by
  induction n with
  | zero => rfl
  | succ n ih => rw [List.replicate_succ, List.replicate_succ, List.flatten_cons, ih]; rfl
theorem ints_upd (d r : List Int) (y x : Int) (k : Nat) (h : d.length = k) : (ints (d ++ y :: r)).set k (.int .i64 x) = ints ((d ++ [x]) ++ r) := by
  have hl : (ints d).length = k := by rw [ints_len, h]
  rw [ints_append, ints_append, ints_append, List.set_append_right _ _ (by omega), hl, Nat.sub_self, List.append_assoc]
  rfl

set_option maxHeartbeats 1000000 in
theorem toIntS (S : HP) (w : World) [H : SepI w S] (A : Option Addr) (c : Nat) (l : List Int) [r : Rd S A (ints l)] (hn : l.length ≤ 1048576) :
    Calls Tryd.prog 113 #[.slice A l.length c] w fun e w' => ∃ g, e = .returned (.slice (some ⟨g, 0, none⟩) l.length l.length) ∧
      Post w (Row 3 1 (.slice (some ⟨g, 0, none⟩) l.length l.length) l.length (ints l) * S) w' := by
  obtain ⟨n, hn'⟩ : ∃ n, n = l.length := ⟨_, rfl⟩
  have HN := Hd.mk hn'
  rw [← hn'] at hn ⊢
  clear hn'
  go_enter Tryd.func113, Tryd.ntmps113
  go_wp2_with (refine ev_make rfl 95 _ _ rfl n rfl rfl 3 1 8 _ Tryd.underlying95 info_int rfl (by decide) (by decide) (by omega) ?_; rw [ints_zeros]; intro g w1 HS1 HE1)
  go_loopw [4] (fun i wr => ∃ k : Nat, k ≤ n ∧ i = .int .i64 k ∧ ExtI w wr ∧
    SepI wr (Row 3 1 (.slice (some ⟨g, 0, none⟩) n n) n (ints (l.take k ++ List.replicate (n - k) 0)) * S)) (fun i _ => n - (intOf i).toNat)
  case atStart => exact ⟨0, Nat.zero_le _, rfl, inferInstance, by simpa using HS1⟩
  case round =>
    obtain ⟨k, hk, rfl, HX, HS⟩ := hrel
    by_cases hlt : k < n
    · obtain ⟨x, hx⟩ := get_ex (xs := l) (k := k) (by rw [← HN.out]; exact hlt)
      obtain ⟨b, off, rfl⟩ := r.addr H (j := k) (by rw [ints_len, ← HN.out]; omega)
      have c1 := r.cell (ints_get hx)
      have hz : (l.take k ++ List.replicate (n - k) 0)[k]? = some (0 : Int) := by
        rw [List.getElem?_append_right (by rw [List.length_take, Nat.min_eq_left (by have := HN.out; omega)]; omega), List.getElem?_replicate, if_pos (by rw [List.length_take, Nat.min_eq_left (by have := HN.out; omega)]; omega)]
      have d1 : CellAt _ g _ _ := Row.cellAt (e := 3) (size := 1) (g := g) (n := n) (c := n) (F := S) (ints_get hz)
      have HG := Hd.mk hx
      clear hx hz
      go_wp2
      go_roundw
      case rel => exact ⟨k + 1, by omega, by go_num, inferInstance, SepI.cast inferInstance (by
        rw [show n - k = (n - (k + 1)) + 1 from by omega, List.replicate_succ, ints_upd (l.take k) _ 0 x k (by rw [List.length_take, Nat.min_eq_left (by have := HN.out; omega)]), take_succ_eq HG.out])⟩
      case measure => simp [intOf]; omega
    · have : k = n := by omega
      subst this
      go_wp2
      go_ret
      exact ⟨g, rfl, Post.mk' (by rw [Nat.sub_self, HN.out, List.take_length, List.replicate_zero, List.append_nil, ← HN.out] at HS; exact HS) HX⟩

theorem szIntS (A : Option Addr) (c n : Nat) (left : Int) (w : World) (hn : n ≤ maxLen) (h0 : 0 ≤ left) (h1 : left ≤ 1048576) :
    Calls Tryd.prog 111 #[.slice A n c, .int .i64 left] w fun e w' => e = .returned (.int .i64 (if left < n then -1 else left - n)) ∧ w' = w := by
  unfold maxLen at hn
  by_cases h : left < n
  · rw [if_pos h]
    go_enter Tryd.func111, Tryd.ntmps111
    go_wp2
    go_ret
    exact ⟨rfl, rfl⟩
  · rw [if_neg h]
    go_enter Tryd.func111, Tryd.ntmps111
    go_wp2
    go_ret
    exact ⟨rfl, rfl⟩

/-- The marks of ints. -/
def mkInts (q : Int) : Nat → List Int
  | 0 => []
  | n + 1 => mkInts q n ++ [q + n]
theorem mkInts_len (q : Int) (n : Nat) : (mkInts q n).length = n := by
  induction n with
  | zero => rfl
  | succ n ih => simp [mkInts, ih]
theorem mkInts_get (q : Int) : ∀ {n k : Nat}, k < n → (mkInts q n)[k]? = some (q + k)
  | 0, k, h => by omega
  | n + 1, k, h => by
    by_cases hk : k < n
    · rw [mkInts, List.getElem?_append_left (by rw [mkInts_len]; exact hk)]; exact mkInts_get q hk
    · have : k = n := by omega
      subst this
      rw [mkInts, List.getElem?_append_right (by rw [mkInts_len]; exact Nat.le_refl _), mkInts_len, Nat.sub_self]
      rfl


end Go.Proofs.YtnioipbofopocaaDoor
