/- Arrays of four ints compared. Conditions: lengths within bounds. -/
import Derived.Test.YtobikkdnalnllaaQa
import Derived.StillTailTactics
namespace Go.Proofs.Ytobikkdnalnllaa
open Go.RowKit SL
attribute [local go_sem] cell_blk frozen_blk lt_blk cell_at frozen_row lt_row
set_option linter.unusedVariables false
set_option linter.unusedSimpArgs false

theorem info_A4 : (Try.prog.info? 41).map (fun i => (i.zero, i.size, i.bytes)) = some (some (.agg #[.int .i64 0, .int .i64 0, .int .i64 0, .int .i64 0]), 4, 32) := by kernel_rfl
set_option maxRecDepth 100000 in
set_option maxHeartbeats 1000000 in
theorem eqIntA4 (S : HP) (w : World) [H : SepI w S] (x0 x1 x2 x3 : Int) :
    Calls Try.prog 30 #[.agg #[.int .i64 x0, .int .i64 x1, .int .i64 x2, .int .i64 x3], .agg #[.int .i64 x0, .int .i64 x1, .int .i64 x2, .int .i64 x3]] w fun e w' => e = .returned (.bool true) ∧ Post w S w' := by
  obtain ⟨b1, hb1⟩ : ∃ b1, b1 = w.heap.size := ⟨_, rfl⟩
  go_enter Try.func30, Try.ntmps30
  go_wp2
  rw [← hb1]
  have H1 : SepI ((w.alloc (.cells #[.int .i64 x0, .int .i64 x1, .int .i64 x2, .int .i64 x3] 41 (0, 0))).alloc (.cells #[.int .i64 x0, .int .i64 x1, .int .i64 x2, .int .i64 x3] 41 (0, 0))) (pts (b1 + 1) (.cells #[.int .i64 x0, .int .i64 x1, .int .i64 x2, .int .i64 x3] 41 (0, 0)) * (pts b1 (.cells #[.int .i64 x0, .int .i64 x1, .int .i64 x2, .int .i64 x3] 41 (0, 0)) * S)) := by rw [hb1]; exact SepI.i_alloc _ _ _ _
  clear hb1
  go_loopw [5] (fun v5 wr => (v5 = .int .i64 0 ∨ v5 = .int .i64 1 ∨ v5 = .int .i64 2 ∨ v5 = .int .i64 3 ∨ v5 = .int .i64 4) ∧ ExtI w wr ∧ SepI wr (pts (b1 + 1) (.cells #[.int .i64 x0, .int .i64 x1, .int .i64 x2, .int .i64 x3] 41 (0, 0)) * (pts b1 (.cells #[.int .i64 x0, .int .i64 x1, .int .i64 x2, .int .i64 x3] 41 (0, 0)) * S))) (fun v _ => 4 - (intOf v).toNat)
  case atStart => exact ⟨.inl rfl, inferInstance, H1⟩
  case round =>
    obtain ⟨hi, HX, HS⟩ := hrel
    clear H1
    rcases hi with rfl | rfl | rfl | rfl | rfl
    · go_wp2
      go_quiet (fail)
      go_wp2
      go_roundw
      case rel => exact ⟨.inr (.inl rfl), inferInstance, inferInstance⟩
      case measure => simp [intOf]
    · go_wp2
      go_quiet (fail)
      go_wp2
      go_roundw
      case rel => exact ⟨.inr (.inr (.inl rfl)), inferInstance, inferInstance⟩
      case measure => simp [intOf]
    · go_wp2
      go_quiet (fail)
      go_wp2
      go_roundw
      case rel => exact ⟨.inr (.inr (.inr (.inl rfl))), inferInstance, inferInstance⟩
      case measure => simp [intOf]
    · go_wp2
      go_quiet (fail)
      go_wp2
      go_roundw
      case rel => exact ⟨.inr (.inr (.inr (.inr rfl))), inferInstance, inferInstance⟩
      case measure => simp [intOf]
    · go_wp2
      go_ret
      exact ⟨rfl, Post.mk' (Ent.sep (S := _) inferInstance inferInstance) inferInstance⟩

end Go.Proofs.Ytobikkdnalnllaa
