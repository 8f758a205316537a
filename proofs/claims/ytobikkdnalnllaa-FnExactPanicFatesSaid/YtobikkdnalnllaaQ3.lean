/- Slices of arrays of 3 ints: comparison, marks. Conditions: lengths within bounds. -/
import Derived.Test.YtobikkdnalnllaaQa
import Derived.StillTailTactics
namespace Go.Proofs.Ytobikkdnalnllaa
open Go.RowKit SL
attribute [local go_sem] cell_blk frozen_blk lt_blk cell_at frozen_row lt_row
set_option linter.unusedVariables false
set_option linter.unusedSimpArgs false

theorem info_A3 : (Try.prog.info? 105).map (fun i => (i.zero, i.size, i.bytes)) = some (some (.agg #[.int .i64 0, .int .i64 0, .int .i64 0]), 3, 24) := by kernel_rfl
set_option maxRecDepth 100000 in
set_option maxHeartbeats 1000000 in
theorem eqIntA3 (S : HP) (w : World) [H : SepI w S] (x0 x1 x2 : Int) :
    Calls Try.prog 79 #[.agg #[.int .i64 x0, .int .i64 x1, .int .i64 x2], .agg #[.int .i64 x0, .int .i64 x1, .int .i64 x2]] w fun e w' => e = .returned (.bool true) ∧ Post w S w' := by
  obtain ⟨b1, hb1⟩ : ∃ b1, b1 = w.heap.size := ⟨_, rfl⟩
  go_enter Try.func79, Try.ntmps79
  go_wp2
  rw [← hb1]
  have H1 : SepI ((w.alloc (.cells #[.int .i64 x0, .int .i64 x1, .int .i64 x2] 105 (0, 0))).alloc (.cells #[.int .i64 x0, .int .i64 x1, .int .i64 x2] 105 (0, 0))) (pts (b1 + 1) (.cells #[.int .i64 x0, .int .i64 x1, .int .i64 x2] 105 (0, 0)) * (pts b1 (.cells #[.int .i64 x0, .int .i64 x1, .int .i64 x2] 105 (0, 0)) * S)) := by rw [hb1]; exact SepI.i_alloc _ _ _ _
  clear hb1
  go_loopw [5] (fun v5 wr => (v5 = .int .i64 0 ∨ v5 = .int .i64 1 ∨ v5 = .int .i64 2 ∨ v5 = .int .i64 3) ∧ ExtI w wr ∧ SepI wr (pts (b1 + 1) (.cells #[.int .i64 x0, .int .i64 x1, .int .i64 x2] 105 (0, 0)) * (pts b1 (.cells #[.int .i64 x0, .int .i64 x1, .int .i64 x2] 105 (0, 0)) * S))) (fun v _ => 3 - (intOf v).toNat)
  case atStart => exact ⟨.inl rfl, inferInstance, H1⟩
  case round =>
    obtain ⟨hi, HX, HS⟩ := hrel
    clear H1
    rcases hi with rfl | rfl | rfl | rfl
    · go_wp2
      go_quiet (fail)
      go_wp2
      go_roundw
      case rel => exact ⟨.inr (.inl rfl), inferInstance, inferInstance⟩
      case measure => simp [intOf]
    · go_wp2
      go_quiet (fail)
      go_wp2
      go_roundw
      case rel => exact ⟨.inr (.inr (.inl rfl)), inferInstance, inferInstance⟩
      case measure => simp [intOf]
    · go_wp2
      go_quiet (fail)
      go_wp2
      go_roundw
      case rel => exact ⟨.inr (.inr (.inr rfl)), inferInstance, inferInstance⟩
      case measure => simp [intOf]
    · go_wp2
      go_ret
      exact ⟨rfl, Post.mk' (Ent.sep (S := _) inferInstance inferInstance) inferInstance⟩

set_option maxRecDepth 100000 in
set_option maxHeartbeats 1000000 in
theorem eqIntA3S (S : HP) (w : World) [H : SepI w S] (A B : Option Addr) (ca cb n : Nat) (fl : List Int) [ra : Rd S A (ints fl)] [rb : Rd S B (ints fl)] (hfl : fl.length = n * 3) (hn : n ≤ 1048576) :
    Calls Try.prog 41 #[.slice A n ca, .slice B n cb] w fun e w' => e = .returned (.bool true) ∧ Post w S w' := by
  have HFL := Hd.mk hfl
  clear hfl
  go_enter Try.func41, Try.ntmps41
  go_wp2
  go_loopw [5] (fun i wr => ∃ k : Nat, k ≤ n ∧ i = .int .i64 k ∧ SepI wr S ∧ ExtI w wr) (fun i _ => n - (intOf i).toNat)
  case atStart => exact ⟨0, Nat.zero_le _, rfl, inferInstance, inferInstance⟩
  case round =>
    obtain ⟨k, hk, rfl, HS, HE⟩ := hrel
    by_cases hlt : k < n
    · obtain ⟨x0, h0⟩ := get_ex (xs := fl) (k := k * 3 + 0) (by rw [HFL.out]; omega)
      obtain ⟨x1, h1⟩ := get_ex (xs := fl) (k := k * 3 + 1) (by rw [HFL.out]; omega)
      obtain ⟨x2, h2⟩ := get_ex (xs := fl) (k := k * 3 + 2) (by rw [HFL.out]; omega)
      obtain ⟨b, off, rfl⟩ := ra.addr H (j := k * 3) (by rw [ints_len, HFL.out]; omega)
      obtain ⟨b', off', rfl⟩ := rb.addr H (j := k * 3) (by rw [ints_len, HFL.out]; omega)
      have c0 : CellAt S b (off + k * 3) _ := ra.cell (ints_get h0)
      have d0 : CellAt S b' (off' + k * 3) _ := rb.cell (ints_get h0)
      have c1 : CellAt S b (off + k * 3 + 1) _ := ra.cell (ints_get h1)
      have d1 : CellAt S b' (off' + k * 3 + 1) _ := rb.cell (ints_get h1)
      have c2 : CellAt S b (off + k * 3 + 2) _ := ra.cell (ints_get h2)
      have d2 : CellAt S b' (off' + k * 3 + 2) _ := rb.cell (ints_get h2)
      clear h0 h1 h2
      go_wp2
      go_still_tail 8, (by kernel_rfl)
      change wpList _ _ _ _ _ wr.drew
      go_wp2_with (go_at_call 79; refine (eqIntA3 _ _ x0 x1 x2).mono ?_; rintro e w' ⟨rfl, HP'⟩; have HS2 := HP'.sep; have HE2 := HP'.ext; clear HP')
      go_roundw
      case rel => exact ⟨k + 1, by omega, by go_num, inferInstance, inferInstance⟩
      case measure => simp [intOf]; omega
    · have : k = n := by omega
      subst this
      go_wp2
      go_ret
      exact ⟨rfl, Post.mk' inferInstance inferInstance⟩

set_option maxRecDepth 100000 in
set_option maxHeartbeats 1000000 in
theorem markIntA3S (F : HP) (w : World) (A : Option Addr) (c n : Nat) (fl : List Int) [H : SepI w (Row 105 3 (.slice A n c) n (ints fl) * F)] (q : Int) (hn : n ≤ 1048576) (h0 : 0 ≤ q) (h1 : q ≤ 4611686018427387904) :
    Calls Try.prog 42 #[.slice A n c, .int .i64 q] w fun e w' => e = .returned (.int .i64 (q + n * 3)) ∧
      Post w (Row 105 3 (.slice A n c) n (ints (mkInts q (n * 3))) * F) w' := by
  have HFL : Hd (fl.length = n * 3) := ⟨by have := Row.len H; rwa [ints_len] at this⟩
  go_enter Try.func42, Try.ntmps42
  go_wp2
  go_loopw [1, 5] (fun v i wr => ∃ k : Nat, k ≤ n ∧ i = .int .i64 k ∧ v = .int .i64 (q + (k * 3 : Nat)) ∧ ExtI w wr ∧
    SepI wr (Row 105 3 (.slice A n c) n (ints (mkInts q (k * 3) ++ fl.drop (k * 3))) * F)) (fun _ i _ => n - (intOf i).toNat)
  case atStart => exact ⟨0, Nat.zero_le _, rfl, by simp, inferInstance, SepI.cast H (by simp [mkInts])⟩
  case round =>
    obtain ⟨k, hk, rfl, rfl, HX, HS⟩ := hrel
    by_cases hlt : k < n
    · obtain ⟨g, rfl⟩ := Row.addr HS (by omega)
      go_wp2
      go_loopw [1, 6] (fun v i wr => ∃ j : Nat, j ≤ 3 ∧ i = .int .i64 j ∧ v = .int .i64 (q + (k * 3 + j : Nat)) ∧ ExtI w wr ∧
        SepI wr (Row 105 3 (.slice (some ⟨g, 0, none⟩) n c) n (ints (mkInts q (k * 3 + j) ++ fl.drop (k * 3 + j))) * F)) (fun _ i _ => 3 - (intOf i).toNat)
      case atStart => exact ⟨0, Nat.zero_le _, rfl, rfl, inferInstance, HS⟩
      case round =>
        obtain ⟨j, hj, rfl, rfl, HX2, HS2⟩ := hrel
        by_cases hlj : j < 3
        · obtain ⟨x, hx⟩ := get_ex (xs := fl) (k := k * 3 + j) (by rw [HFL.out]; omega)
          have hz : (mkInts q (k * 3 + j) ++ fl.drop (k * 3 + j))[k * 3 + j]? = some x := by
            rw [List.getElem?_append_right (by rw [mkInts_len]; exact Nat.le_refl _), mkInts_len, Nat.sub_self, List.getElem?_drop]; exact hx
          have d1 : CellAt _ g (k * 3 + j) _ := Row.cellAt (e := 105) (size := 3) (g := g) (n := n) (c := c) (F := F) (ints_get hz)
          have hd : fl.drop (k * 3 + j) = x :: fl.drop (k * 3 + j + 1) := by
            obtain ⟨hlt', e⟩ := List.getElem?_eq_some_iff.1 hx
            rw [List.drop_eq_getElem_cons hlt', e]
          have HG := Hd.mk hd
          clear hx hz hd
          go_wp2
          go_roundw
          case rel => exact ⟨j + 1, by omega, by go_num, by go_num, inferInstance, SepI.cast inferInstance (by
            rw [HG.out, show ints (mkInts q (k * 3 + (j + 1)) ++ fl.drop (k * 3 + (j + 1))) = _ from (ints_upd (mkInts q (k * 3 + j)) (fl.drop (k * 3 + j + 1)) x (q + (k * 3 + j : Nat)) (k * 3 + j) (mkInts_len _ _)).symm]; try simp only [Int.natCast_add, Int.natCast_mul, Int.cast_ofNat_Int])⟩
          case measure => simp [intOf]; omega
        · have : j = 3 := by omega
          subst this
          go_wp2
          go_roundw
          case rel => exact ⟨k + 1, by omega, by go_num, by rw [show k * 3 + 3 = (k + 1) * 3 by omega], inferInstance, SepI.cast HS2 (by rw [show k * 3 + 3 = (k + 1) * 3 by omega])⟩
          case measure => simp [intOf]; omega
    · have : k = n := by omega
      subst this
      go_wp2
      go_ret
      exact ⟨by first | rfl | (congr 2; push_cast; omega), Post.mk' (SepI.cast HS (by rw [← HFL.out, List.drop_length, List.append_nil, HFL.out])) HX⟩

set_option maxRecDepth 100000 in
set_option maxHeartbeats 1000000 in
theorem heldIntA3S (S : HP) (w : World) [H : SepI w S] (A : Option Addr) (c n : Nat) (q : Int) [r : Rd S A (ints (mkInts q (n * 3)))] (hn : n ≤ 1048576) (h0 : 0 ≤ q) (h1 : q ≤ 4611686018427387904) :
    Calls Try.prog 43 #[.slice A n c, .int .i64 q] w fun e w' => e = .returned (.int .i64 (q + n * 3)) ∧ w' = w := by
  go_enter Try.func43, Try.ntmps43
  go_wp2
  go_loop [1, 5] (fun v i => ∃ k : Nat, k ≤ n ∧ i = .int .i64 k ∧ v = .int .i64 (q + (k * 3 : Nat))) (fun _ i => n - (intOf i).toNat)
  case atStart => exact ⟨0, Nat.zero_le _, rfl, by simp⟩
  case round =>
    obtain ⟨k, hk, rfl, rfl⟩ := hrel
    by_cases hlt : k < n
    · obtain ⟨b, off, rfl⟩ := r.addr H (j := k * 3) (by rw [ints_len, mkInts_len]; omega)
      go_wp2
      go_loop [1, 6] (fun v i => ∃ j : Nat, j ≤ 3 ∧ i = .int .i64 j ∧ v = .int .i64 (q + (k * 3 + j : Nat))) (fun _ i => 3 - (intOf i).toNat)
      case atStart => exact ⟨0, Nat.zero_le _, rfl, rfl⟩
      case round =>
        obtain ⟨j, hj, rfl, rfl⟩ := hrel
        by_cases hlj : j < 3
        · have c1 : CellAt S b (off + k * 3 + j) (.int .i64 (q + ((k : Int) * 3 + (j : Int)))) := by
            rw [Nat.add_assoc, show q + ((k : Int) * 3 + (j : Int)) = q + ((k * 3 + j : Nat) : Int) by omega]
            exact r.cell (ints_get (mkInts_get q (k := k * 3 + j) (by omega)))
          go_wp2
          go_round
          case rel => exact ⟨j + 1, by omega, by go_num, by go_num⟩
          case measure => simp [intOf]; omega
        · have : j = 3 := by omega
          subst this
          go_wp2
          go_round
          case rel => exact ⟨k + 1, by omega, by go_num, by rw [show k * 3 + 3 = (k + 1) * 3 by omega]⟩
          case measure => simp [intOf]; omega
    · have : k = n := by omega
      subst this
      go_wp2
      go_ret
      exact ⟨by first | rfl | (congr 2; push_cast; omega), rfl⟩
end Go.Proofs.Ytobikkdnalnllaa
