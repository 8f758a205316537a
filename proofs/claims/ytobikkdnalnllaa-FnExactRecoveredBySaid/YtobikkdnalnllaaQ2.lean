/- Slices of arrays of 2 ints: comparison, marks. Conditions: lengths within bounds. -/
import Derived.Test.YtobikkdnalnllaaQa
import Derived.StillTailTactics
namespace Go.Proofs.Ytobikkdnalnllaa
open Go.RowKit SL
attribute [local go_sem] cell_blk frozen_blk lt_blk cell_at frozen_row lt_row
set_option linter.unusedVariables false
set_option linter.unusedSimpArgs false

theorem info_A2 : (Try.prog.info? 112).map (fun i => (i.zero, i.size, i.bytes)) = some (some (.agg #[.int .i64 0, .int .i64 0]), 2, 16) := by kernel_rfl
set_option maxRecDepth 100000 in
set_option maxHeartbeats 1000000 in
theorem eqIntA2 (S : HP) (w : World) [H : SepI w S] (x0 x1 : Int) :
    Calls Try.prog 80 #[.agg #[.int .i64 x0, .int .i64 x1], .agg #[.int .i64 x0, .int .i64 x1]] w fun e w' => e = .returned (.bool true) ∧ Post w S w' := by
  obtain ⟨b1, hb1⟩ : ∃ b1, b1 = w.heap.size := ⟨_, rfl⟩
  go_enter Try.func80, Try.ntmps80
  go_wp2
  rw [← hb1]
  have H1 : SepI ((w.alloc (.cells #[.int .i64 x0, .int .i64 x1] 112 (0, 0))).alloc (.cells #[.int .i64 x0, .int .i64 x1] 112 (0, 0))) (pts (b1 + 1) (.cells #[.int .i64 x0, .int .i64 x1] 112 (0, 0)) * (pts b1 (.cells #[.int .i64 x0, .int .i64 x1] 112 (0, 0)) * S)) := by rw [hb1]; exact SepI.i_alloc _ _ _ _
  clear hb1
  go_loopw [5] (fun v5 wr => (v5 = .int .i64 0 ∨ v5 = .int .i64 1 ∨ v5 = .int .i64 2) ∧ ExtI w wr ∧ SepI wr (pts (b1 + 1) (.cells #[.int .i64 x0, .int .i64 x1] 112 (0, 0)) * (pts b1 (.cells #[.int .i64 x0, .int .i64 x1] 112 (0, 0)) * S))) (fun v _ => 2 - (intOf v).toNat)
  case atStart => exact ⟨.inl rfl, inferInstance, H1⟩
  case round =>
    obtain ⟨hi, HX, HS⟩ := hrel
    clear H1
    rcases hi with rfl | rfl | rfl
    · go_wp2
      go_quiet (fail)
      go_wp2
      go_roundw
      case rel => exact ⟨.inr (.inl rfl), inferInstance, inferInstance⟩
      case measure => simp [intOf]
    · go_wp2
      go_quiet (fail)
      go_wp2
      go_roundw
      case rel => exact ⟨.inr (.inr rfl), inferInstance, inferInstance⟩
      case measure => simp [intOf]
    · go_wp2
      go_ret
      exact ⟨rfl, Post.mk' (Ent.sep (S := _) inferInstance inferInstance) inferInstance⟩

set_option maxRecDepth 100000 in
set_option maxHeartbeats 1000000 in
theorem eqIntA2S (S : HP) (w : World) [H : SepI w S] (A B : Option Addr) (ca cb n : Nat) (fl : List Int) [ra : Rd S A (ints fl)] [rb : Rd S B (ints fl)] (hfl : fl.length = n * 2) (hn : n ≤ 1048576) :
    Calls Try.prog 46 #[.slice A n ca, .slice B n cb] w fun e w' => e = .returned (.bool true) ∧ Post w S w' := by
  have HFL := Hd.mk hfl
  clear hfl
  go_enter Try.func46, Try.ntmps46
  go_wp2
  go_loopw [5] (fun i wr => ∃ k : Nat, k ≤ n ∧ i = .int .i64 k ∧ SepI wr S ∧ ExtI w wr) (fun i _ => n - (intOf i).toNat)
  case atStart => exact ⟨0, Nat.zero_le _, rfl, inferInstance, inferInstance⟩
  case round =>
    obtain ⟨k, hk, rfl, HS, HE⟩ := hrel
    by_cases hlt : k < n
    · obtain ⟨x0, h0⟩ := get_ex (xs := fl) (k := k * 2 + 0) (by rw [HFL.out]; omega)
      obtain ⟨x1, h1⟩ := get_ex (xs := fl) (k := k * 2 + 1) (by rw [HFL.out]; omega)
      obtain ⟨b, off, rfl⟩ := ra.addr H (j := k * 2) (by rw [ints_len, HFL.out]; omega)
      obtain ⟨b', off', rfl⟩ := rb.addr H (j := k * 2) (by rw [ints_len, HFL.out]; omega)
      have c0 : CellAt S b (off + k * 2) _ := ra.cell (ints_get h0)
      have d0 : CellAt S b' (off' + k * 2) _ := rb.cell (ints_get h0)
      have c1 : CellAt S b (off + k * 2 + 1) _ := ra.cell (ints_get h1)
      have d1 : CellAt S b' (off' + k * 2 + 1) _ := rb.cell (ints_get h1)
      clear h0 h1
      go_wp2
      go_still_tail 8, (by kernel_rfl)
      change wpList _ _ _ _ _ wr.drew
      go_wp2_with (go_at_call 80; refine (eqIntA2 _ _ x0 x1).mono ?_; rintro e w' ⟨rfl, HP'⟩; have HS2 := HP'.sep; have HE2 := HP'.ext; clear HP')
      go_roundw
      case rel => exact ⟨k + 1, by omega, by go_num, inferInstance, inferInstance⟩
      case measure => simp [intOf]; omega
    · have : k = n := by omega
      subst this
      go_wp2
      go_ret
      exact ⟨rfl, Post.mk' inferInstance inferInstance⟩

set_option maxRecDepth 100000 in
set_option maxHeartbeats 1000000 in
theorem markIntA2S (F : HP) (w : World) (A : Option Addr) (c n : Nat) (fl : List Int) [H : SepI w (Row 112 2 (.slice A n c) n (ints fl) * F)] (q : Int) (hn : n ≤ 1048576) (h0 : 0 ≤ q) (h1 : q ≤ 4611686018427387904) :
    Calls Try.prog 47 #[.slice A n c, .int .i64 q] w fun e w' => e = .returned (.int .i64 (q + n * 2)) ∧
      Post w (Row 112 2 (.slice A n c) n (ints (mkInts q (n * 2))) * F) w' := by
  have HFL : Hd (fl.length = n * 2) := ⟨by have := Row.len H; rwa [ints_len] at this⟩
  go_enter Try.func47, Try.ntmps47
  go_wp2
  go_loopw [1, 5] (fun v i wr => ∃ k : Nat, k ≤ n ∧ i = .int .i64 k ∧ v = .int .i64 (q + (k * 2 : Nat)) ∧ ExtI w wr ∧
    SepI wr (Row 112 2 (.slice A n c) n (ints (mkInts q (k * 2) ++ fl.drop (k * 2))) * F)) (fun _ i _ => n - (intOf i).toNat)
  case atStart => exact ⟨0, Nat.zero_le _, rfl, by simp, inferInstance, SepI.cast H (by simp [mkInts])⟩
  case round =>
    obtain ⟨k, hk, rfl, rfl, HX, HS⟩ := hrel
    by_cases hlt : k < n
    · obtain ⟨g, rfl⟩ := Row.addr HS (by omega)
      go_wp2
      go_loopw [1, 6] (fun v i wr => ∃ j : Nat, j ≤ 2 ∧ i = .int .i64 j ∧ v = .int .i64 (q + (k * 2 + j : Nat)) ∧ ExtI w wr ∧
        SepI wr (Row 112 2 (.slice (some ⟨g, 0, none⟩) n c) n (ints (mkInts q (k * 2 + j) ++ fl.drop (k * 2 + j))) * F)) (fun _ i _ => 2 - (intOf i).toNat)
      case atStart => exact ⟨0, Nat.zero_le _, rfl, rfl, inferInstance, HS⟩
      case round =>
        obtain ⟨j, hj, rfl, rfl, HX2, HS2⟩ := hrel
        by_cases hlj : j < 2
        · obtain ⟨x, hx⟩ := get_ex (xs := fl) (k := k * 2 + j) (by rw [HFL.out]; omega)
          have hz : (mkInts q (k * 2 + j) ++ fl.drop (k * 2 + j))[k * 2 + j]? = some x := by
            rw [List.getElem?_append_right (by rw [mkInts_len]; exact Nat.le_refl _), mkInts_len, Nat.sub_self, List.getElem?_drop]; exact hx
          have d1 : CellAt _ g (k * 2 + j) _ := Row.cellAt (e := 112) (size := 2) (g := g) (n := n) (c := c) (F := F) (ints_get hz)
          have hd : fl.drop (k * 2 + j) = x :: fl.drop (k * 2 + j + 1) := by
            obtain ⟨hlt', e⟩ := List.getElem?_eq_some_iff.1 hx
            rw [List.drop_eq_getElem_cons hlt', e]
          have HG := Hd.mk hd
          clear hx hz hd
          go_wp2
          go_roundw
          case rel => exact ⟨j + 1, by omega, by go_num, by go_num, inferInstance, SepI.cast inferInstance (by
            rw [HG.out, show ints (mkInts q (k * 2 + (j + 1)) ++ fl.drop (k * 2 + (j + 1))) = _ from (ints_upd (mkInts q (k * 2 + j)) (fl.drop (k * 2 + j + 1)) x (q + (k * 2 + j : Nat)) (k * 2 + j) (mkInts_len _ _)).symm]; try simp only [Int.natCast_add, Int.natCast_mul, Int.cast_ofNat_Int])⟩
          case measure => simp [intOf]; omega
        · have : j = 2 := by omega
          subst this
          go_wp2
          go_roundw
          case rel => exact ⟨k + 1, by omega, by go_num, by rw [show k * 2 + 2 = (k + 1) * 2 by omega], inferInstance, SepI.cast HS2 (by rw [show k * 2 + 2 = (k + 1) * 2 by omega])⟩
          case measure => simp [intOf]; omega
    · have : k = n := by omega
      subst this
      go_wp2
      go_ret
      exact ⟨by first | rfl | (congr 2; push_cast; omega), Post.mk' (SepI.cast HS (by rw [← HFL.out, List.drop_length, List.append_nil, HFL.out])) HX⟩

set_option maxRecDepth 100000 in
set_option maxHeartbeats 1000000 in
theorem heldIntA2S (S : HP) (w : World) [H : SepI w S] (A : Option Addr) (c n : Nat) (q : Int) [r : Rd S A (ints (mkInts q (n * 2)))] (hn : n ≤ 1048576) (h0 : 0 ≤ q) (h1 : q ≤ 4611686018427387904) :
    Calls Try.prog 48 #[.slice A n c, .int .i64 q] w fun e w' => e = .returned (.int .i64 (q + n * 2)) ∧ w' = w := by
  go_enter Try.func48, Try.ntmps48
  go_wp2
  go_loop [1, 5] (fun v i => ∃ k : Nat, k ≤ n ∧ i = .int .i64 k ∧ v = .int .i64 (q + (k * 2 : Nat))) (fun _ i => n - (intOf i).toNat)
  case atStart => exact ⟨0, Nat.zero_le _, rfl, by simp⟩
  case round =>
    obtain ⟨k, hk, rfl, rfl⟩ := hrel
    by_cases hlt : k < n
    · obtain ⟨b, off, rfl⟩ := r.addr H (j := k * 2) (by rw [ints_len, mkInts_len]; omega)
      go_wp2
      go_loop [1, 6] (fun v i => ∃ j : Nat, j ≤ 2 ∧ i = .int .i64 j ∧ v = .int .i64 (q + (k * 2 + j : Nat))) (fun _ i => 2 - (intOf i).toNat)
      case atStart => exact ⟨0, Nat.zero_le _, rfl, rfl⟩
      case round =>
        obtain ⟨j, hj, rfl, rfl⟩ := hrel
        by_cases hlj : j < 2
        · have c1 : CellAt S b (off + k * 2 + j) (.int .i64 (q + ((k : Int) * 2 + (j : Int)))) := by
            rw [Nat.add_assoc, show q + ((k : Int) * 2 + (j : Int)) = q + ((k * 2 + j : Nat) : Int) by omega]
            exact r.cell (ints_get (mkInts_get q (k := k * 2 + j) (by omega)))
          go_wp2
          go_round
          case rel => exact ⟨j + 1, by omega, by go_num, by go_num⟩
          case measure => simp [intOf]; omega
        · have : j = 2 := by omega
          subst this
          go_wp2
          go_round
          case rel => exact ⟨k + 1, by omega, by go_num, by rw [show k * 2 + 2 = (k + 1) * 2 by omega]⟩
          case measure => simp [intOf]; omega
    · have : k = n := by omega
      subst this
      go_wp2
      go_ret
      exact ⟨by first | rfl | (congr 2; push_cast; omega), rfl⟩
end Go.Proofs.Ytobikkdnalnllaa
