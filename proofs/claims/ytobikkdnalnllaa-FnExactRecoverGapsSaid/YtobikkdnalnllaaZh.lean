/- The reading of a trace: l4Top, l4Fate. Conditions: lengths within bounds. -/
import Derived.Test.YtobikkdnalnllaaZg
namespace Go.Proofs.Ytobikkdnalnllaa
open Go.RowKit SL
attribute [local go_sem] cell_blk frozen_blk lt_blk cell_at frozen_row lt_row
set_option linter.unusedVariables false
set_option linter.unusedSimpArgs false

theorem last_get {α : Type} (l : List α) (x : α) : (l ++ [x])[l.length]? = some x := by simp
theorem last_set {α : Type} (l : List α) (x y : α) : (l ++ [x]).set l.length y = l ++ [y] := by simp
set_option maxRecDepth 100000 in
set_option maxHeartbeats 8000000 in
theorem spec_l4Top (S : HP) (w : World) (A1 : Option Addr) (c1 : Nat) (B2 : Option Addr) (n2 d2 : Nat) (B3 : Option Addr) (n3 d3 : Nat) (B4 : Option Addr) (n4 d4 : Nat) (B5 : Option Addr) (n5 d5 : Nat) (B6 : Option Addr) (n6 d6 : Nat) (B7 : Option Addr) (n7 d7 : Nat) (pre : List (Bool × Int)) (t : Bool × Int) (on : Int) (k : Nat) (cs : List (Bool × Int)) (hk : pre.length = k) (hcs : cs = pre ++ [t]) (hb : k ≤ 1000) [H : SepI w (Row 147 2 (.slice A1 (k + 1) c1) (k + 1) (cCl cs) * S)] :
    Calls Try.prog 122 #[.agg #[.slice A1 (k + 1) c1, .slice B2 n2 d2, .slice B3 n3 d3, .slice B4 n4 d4, .slice B5 n5 d5, .slice B6 n6 d6, .slice B7 n7 d7], .int .i64 on] w fun e w' => ∃ A' c', e = .returned (.agg #[.slice A' (k + 1) c', .slice B2 n2 d2, .slice B3 n3 d3, .slice B4 n4 d4, .slice B5 n5 d5, .slice B6 n6 d6, .slice B7 n7 d7]) ∧ Post w (Row 147 2 (.slice A' (k + 1) c') (k + 1) (cCl (pre ++ [(t.1, on)])) * S) w' := by
  have hn := Row.none_nil H
  have HN := Hd.mk hn
  have HCL : Hd ((cCl cs).length = (k + 1) * 2) := ⟨by rw [cCl_len, hcs, List.length_append, hk]; rfl⟩
  have hget : cs[k]? = some t := by rw [hcs, ← hk]; exact last_get pre t
  have HCS : Hd ((cCl cs).set (k * 2 + 1) (.int .i64 on) = cCl (pre ++ [(t.1, on)])) := ⟨by rw [cCl_set hget, hcs, ← hk, last_set]⟩
  have d0 : ∀ (g c' : Nat) (F : HP), CellAt (Row 147 2 (.slice (some ⟨g, 0, none⟩) (k + 1) c') (k + 1) (cCl cs) * F) g (k * 2 + 1) (.int .i64 t.2) := fun g c' F => Row.cellAt (cCl_get hget).2
  have HD := Hd.mk d0
  clear hn hcs hk hget d0
  go_enter Try.func122, Try.ntmps122
  go_wp2_with (first | (at_builtin; go_must (refine ev_appendR (H := Row.lit0 (size := 2) (SepI.pick (A := pts (w.heap.size + 1 + 1) (.cells #[] 147 (0, 0))) inferInstance inferInstance)) (v := .slice (some ⟨w.heap.size + 1 + 1, 0, none⟩) 0 0) rfl _ _ 100 rfl rfl 16 _ Try.underlying100 info_cl rfl (by decide) (by decide) A1 (k + 1) c1 rfl (news := cCl cs) HN.out HCL.out (cCl_one cs) (by omega) ?_); rw [Nat.zero_add, List.nil_append]; intro v1 w2 HS2 HE2; obtain ⟨A', c', rfl, _, _⟩ := Row.form HS2; obtain ⟨g, rfl⟩ := Row.addr HS2 (by omega); have dd := HD.out g c') | (refine ev_store rfl 103 _ _ rfl (w.heap.size + 1) #[Value.slice (some ⟨g, 0, none⟩) (k + 1) c', .slice B2 n2 d2, .slice B3 n3 d3, .slice B4 n4 d4, .slice B5 n5 d5, .slice B6 n6 d6, .slice B7 n7 d7] rfl rfl info_r4 (by rfl) (by simp [Value.oneCell']) ?_; intro w5 HS5 HE5))
  refine bodyPost_ret (v := .agg #[.slice (some ⟨g, 0, none⟩) (k + 1) c', .slice B2 n2 d2, .slice B3 n3 d3, .slice B4 n4 d4, .slice B5 n5 d5, .slice B6 n6 d6, .slice B7 n7 d7]) (by simp [results, Try.results122, go_sem]) rfl ?_
  exact ⟨some ⟨g, 0, none⟩, c', rfl, Post.mk' (SepI.cast (Ent.sep (S := _) (T := Row 147 2 (.slice (some ⟨g, 0, none⟩) (k + 1) c') (k + 1) ((cCl cs).set (k * 2 + 1) (.int .i64 on)) * S) inferInstance inferInstance) (by rw [HCS.out])) inferInstance⟩
set_option maxRecDepth 100000 in
set_option maxHeartbeats 8000000 in
theorem spec_l4Fate (S : HP) (w : World) (A2 : Option Addr) (c2 : Nat) (B1 : Option Addr) (n1 d1 : Nat) (B3 : Option Addr) (n3 d3 : Nat) (B4 : Option Addr) (n4 d4 : Nat) (B5 : Option Addr) (n5 d5 : Nat) (B6 : Option Addr) (n6 d6 : Nat) (B7 : Option Addr) (n7 d7 : Nat) (ps : List (Int × Int × Int)) (n k : Nat) (x : Int) (hn : ps.length = n) (hk : k < n) (hb : n ≤ 1000) [H : SepI w (Row 105 3 (.slice A2 n c2) n (c3s ps) * S)] :
    Calls Try.prog 123 #[.agg #[.slice B1 n1 d1, .slice A2 n c2, .slice B3 n3 d3, .slice B4 n4 d4, .slice B5 n5 d5, .slice B6 n6 d6, .slice B7 n7 d7], .int .i64 (k : Int), .int .i64 x] w fun e w' => ∃ A' c', e = .returned (.agg #[.slice B1 n1 d1, .slice A' n c', .slice B3 n3 d3, .slice B4 n4 d4, .slice B5 n5 d5, .slice B6 n6 d6, .slice B7 n7 d7]) ∧ Post w (Row 105 3 (.slice A' n c') n (c3s (fate4 ps k x)) * S) w' := by
  have hnn := Row.none_nil H
  have HN := Hd.mk hnn
  have HCL : Hd ((c3s ps).length = n * 3) := ⟨by rw [c3s_len, hn]⟩
  obtain ⟨y, hget⟩ := get_ex (xs := ps) (k := k) (by omega)
  have HCS : Hd ((c3s ps).set (k * 3 + 2) (.int .i64 x) = c3s (fate4 ps k x)) := ⟨by rw [c3s_set hget]; unfold fate4; rw [hget]⟩
  have d0 : ∀ (g c' : Nat) (F : HP), CellAt (Row 105 3 (.slice (some ⟨g, 0, none⟩) n c') n (c3s ps) * F) g (k * 3 + 2) (.int .i64 y.2.2) := fun g c' F => Row.cellAt (c3s_get hget).2.2
  have HD := Hd.mk d0
  clear hnn hn hget d0
  go_enter Try.func123, Try.ntmps123
  go_wp2_with (first | (at_builtin; go_must (refine ev_appendR (H := Row.lit0 (size := 3) (SepI.pick (A := pts (w.heap.size + 1 + 1) (.cells #[] 105 (0, 0))) inferInstance inferInstance)) (v := .slice (some ⟨w.heap.size + 1 + 1, 0, none⟩) 0 0) rfl _ _ 46 rfl rfl 24 _ Try.underlying46 info_t3 rfl (by decide) (by decide) A2 n c2 rfl (news := c3s ps) HN.out HCL.out (c3s_one ps) (by omega) ?_); rw [Nat.zero_add, List.nil_append]; intro v1 w2 HS2 HE2; obtain ⟨A', c', rfl, _, _⟩ := Row.form HS2; obtain ⟨g, rfl⟩ := Row.addr HS2 (by omega); have dd := HD.out g c') | (refine ev_store rfl 103 _ _ rfl (w.heap.size + 1) #[Value.slice B1 n1 d1, .slice (some ⟨g, 0, none⟩) n c', .slice B3 n3 d3, .slice B4 n4 d4, .slice B5 n5 d5, .slice B6 n6 d6, .slice B7 n7 d7] rfl rfl info_r4 (by rfl) (by simp [Value.oneCell']) ?_; intro w5 HS5 HE5))
  refine bodyPost_ret (v := .agg #[.slice B1 n1 d1, .slice (some ⟨g, 0, none⟩) n c', .slice B3 n3 d3, .slice B4 n4 d4, .slice B5 n5 d5, .slice B6 n6 d6, .slice B7 n7 d7]) (by simp [results, Try.results123, go_sem]) rfl ?_
  exact ⟨some ⟨g, 0, none⟩, c', rfl, Post.mk' (SepI.cast (Ent.sep (S := _) (T := Row 105 3 (.slice (some ⟨g, 0, none⟩) n c') n ((c3s ps).set (k * 3 + 2) (.int .i64 x)) * S) inferInstance inferInstance) (by rw [HCS.out])) inferInstance⟩
end Go.Proofs.Ytobikkdnalnllaa
