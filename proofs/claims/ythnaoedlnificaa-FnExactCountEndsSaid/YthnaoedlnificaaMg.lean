/- The reference's machine: tell, wrap. Conditions: lengths within bounds. -/
import Derived.Test.YthnaoedlnificaaQc
import Derived.StillTailTactics
namespace Go.Proofs.Ythnaoedlnificaa
open Go.RowKit SL
attribute [local go_sem] cell_blk frozen_blk lt_blk cell_at frozen_row lt_row
set_option linter.unusedVariables false
set_option linter.unusedSimpArgs false

abbrev TRow (v : Value) (l : List Ev) : HP := Row 94 3 v l.length (cEvs l)
/-- What l2Tell hands back. -/
def TellS (S : HP) (P vs : Value) (fuel sh mk dp : Int) (sp : Bool) (t : List Ev) (w : World) (e : Ending) (w' : World) : Prop := ∃ vt, e = .returned (smV P vt vs fuel sh mk dp sp) ∧ Post w (Row 94 3 vt t.length (cEvs t) * S) w'
set_option maxRecDepth 100000 in
set_option maxHeartbeats 2000000 in
theorem spec_l2Tell (S : HP) (w : World) (A : Option Addr) (n c : Nat) (vt : Value) (A2 : Option Addr) (n2 c2 : Nat) (t : List Ev) [H : SepI w (Row 94 3 vt t.length (cEvs t) * S)] (ht : t.length ≤ 1048576) (fuel sh mk dp : Int) (sp : Bool) (k f v : Int) :
    Calls Try.prog 105 #[smV (.slice A n c) vt (.slice A2 n2 c2) fuel sh mk dp sp, .int .i64 k, .int .i64 f, .int .i64 v] w (TellS S (.slice A n c) (.slice A2 n2 c2) fuel sh mk dp sp (t ++ [⟨k, f, v⟩]) w) := by
  obtain ⟨A1, c1, rfl, hc1, hc1'⟩ := Row.form H
  obtain ⟨m, hm⟩ : ∃ m, m = t.length := ⟨_, rfl⟩
  have HM := Hd.mk hm
  rw [← hm] at H ht hc1
  rw [← hm]
  clear hm
  obtain ⟨g4, hg4⟩ : ∃ g4, g4 = w.heap.size := ⟨_, rfl⟩
  go_enter Try.func105, Try.ntmps105
  go_wp2_with (at_builtin; go_must (refine ev_append (v := .slice A1 m c1) rfl _ _ 26 rfl rfl 24 _ Try.underlying26 info_ev rfl (by decide) (by decide) (w.heap.size + 2) 1 1 rfl rfl (by simp [Value.oneCell']) (by omega) ?_); intro v1 w4 HS4 HE4; obtain ⟨A5, c5, rfl, hc5, hc5'⟩ := Row.form HS4)
  refine bodyPost_ret (v := smV (.slice A n c) (.slice A5 (m + 1) c5) (.slice A2 n2 c2) fuel sh mk dp sp) (by simp [results, Try.results105, go_sem]) rfl ?_
  exact ⟨.slice A5 (m + 1) c5, rfl, Post.mk' (SepI.cast (Ent.sep (S := _) (T := Row 94 3 (.slice A5 (m + 1) c5) (m + 1) (cEvs t ++ [.int .i64 k, .int .i64 f, .int .i64 v]) * S) inferInstance inferInstance) (by rw [cEvs_snoc, List.length_append, ← HM.out]; rfl)) inferInstance⟩
theorem spec_l2Wrap (w : World) (x : Int) (h0 : -131072 ≤ x) (h1 : x ≤ 131072) :
    Calls Try.prog 125 #[.int .i64 x] w fun e w' => e = .returned (.int .i64 (w16s x)) ∧ w' = w := by
  have e1 : IntKind.i64.wrap (x + 32767) = x + 32767 := IntWalk.i64_in _ (by omega)
  have e2 : IntKind.i64.wrap (x + 32767 + 1) = x + 32767 + 1 := IntWalk.i64_in _ (by omega)
  have e3 : IntKind.i64.wrap (x + 32767 + 1 + 131072) = x + 32767 + 1 + 131072 := IntWalk.i64_in _ (by omega)
  go_enter Try.func125, Try.ntmps125
  go_wp2
  go_ret
  exact ⟨ret_i (by unfold w16s; omega), rfl⟩
end Go.Proofs.Ythnaoedlnificaa
