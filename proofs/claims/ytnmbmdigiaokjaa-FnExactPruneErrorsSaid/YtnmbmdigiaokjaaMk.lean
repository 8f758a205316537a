/- Errors marked. Conditions: lengths within bounds. -/
import Derived.Test.YtnmbmdigiaokjaaAf
namespace Go.Proofs.Ytnmbmdigiaokjaa
open Go.RowKit SL
attribute [local go_sem] cell_blk frozen_blk lt_blk cell_at frozen_row lt_row
set_option linter.unusedVariables false
set_option linter.unusedSimpArgs false

theorem _root_.List.set_getElem?_self' {α : Type} {l : List α} {k : Nat} {x : α} (h : l[k]? = some x) : l.set k x = l := by
  apply List.ext_getElem?
  intro i
  rw [List.getElem?_set]
  split
  · subst_vars; rw [if_pos (List.getElem?_eq_some_iff.1 h).1, h]
  · rfl
set_option maxRecDepth 100000 in
set_option maxHeartbeats 2000000 in
theorem markErrorNodeS (F : HP) (w : World) (A : Option Addr) (c : Nat) (es : List EN) [H : SepI w (OwnE (.slice A es.length c) es * F)] (hs : ∀ x ∈ es, x.l.length ≤ 1048576) (hl : es.length ≤ 1048576) :
    Calls Try.prog 59 #[.slice A es.length c, .int .i64 1] w fun e w' => ∃ r : Int, e = .returned (.int .i64 r) ∧ 0 ≤ r ∧ Post w F w' := by
  obtain ⟨n, hn'⟩ : ∃ n, n = es.length := ⟨_, rfl⟩
  have HN := Hd.mk hn'
  have HS0 := Hd.mk hs
  have H1 : SepI w (Row 70 3 (.slice A es.length c) es.length (cENs es) * (stars (es.map OwnI) * F)) := by rw [← star_assoc]; exact H
  clear H
  rw [← hn'] at hl H1 ⊢
  clear hn' hs
  go_enter Try.func59, Try.ntmps59
  go_wp2
  go_loopw [1, 5] (fun v i wr => ∃ (k : Nat) (q : Int) (d : List EN), k ≤ n ∧ i = .int .i64 k ∧ v = .int .i64 q ∧ 0 ≤ q ∧ q ≤ 1 + 1048578 * k ∧ ExtI w wr ∧ Hd (d.length = k) ∧
    SepI wr (Row 70 3 (.slice A n c) n (cENs (d ++ es.drop k)) * (stars ((d ++ es.drop k).map OwnI) * F))) (fun _ i _ => n - (intOf i).toNat)
  case atStart => exact ⟨0, 1, [], Nat.zero_le _, rfl, rfl, by omega, by omega, inferInstance, ⟨rfl⟩, by simpa using H1⟩
  case round =>
    obtain ⟨k, q, d, hk, rfl, rfl, hq0, hq1, HX, HD, HS⟩ := hrel
    by_cases hlt : k < n
    · obtain ⟨x, hx⟩ := get_ex (xs := es) (k := k) (by rw [← HN.out]; exact hlt)
      obtain ⟨g, rfl⟩ := Row.addr HS (by omega)
      have hd : es.drop k = x :: es.drop (k + 1) := by
        obtain ⟨hlt', e⟩ := List.getElem?_eq_some_iff.1 hx
        rw [List.drop_eq_getElem_cons hlt', e]
      have hz : (d ++ es.drop k)[k]? = some x := by rw [List.getElem?_append_right (by rw [HD.out]; exact Nat.le_refl _), HD.out, Nat.sub_self, hd]; rfl
      have d1 : CellAt _ g _ _ := Row.cellAt (e := 70) (size := 3) (g := g) (n := n) (c := c) (F := stars ((d ++ es.drop k).map OwnI) * F) (cENs_get hz).1
      have d2 : CellAt _ g _ _ := Row.cellAt (e := 70) (size := 3) (g := g) (n := n) (c := c) (F := stars ((d ++ es.drop k).map OwnI) * F) (cENs_get hz).2.1
      have hz3 : ((((cENs (d ++ es.drop k)).set (k * 3) (.int .i64 q)).set (k * 3 + 1) (.int .i64 (q + 1))) : List Value)[k * 3 + 2]? = some (.slice x.p x.l.length x.pc) := by
        rw [List.getElem?_set_ne (by omega), List.getElem?_set_ne (by omega)]; exact (cENs_get hz).2.2
      have d3 : CellAt _ g _ _ := Row.cellAt (e := 70) (size := 3) (g := g) (n := n) (c := c) (F := stars ((d ++ es.drop k).map OwnI) * F) hz3
      have sx := HS0.out x (List.mem_of_getElem? hx)
      have HG := Hd.mk hd
      clear hx hz hz3 hd
      go_wp2_with fail
      have HS3 : SepI _ (Row 70 3 (.slice (some ⟨g, 0, none⟩) n c) n (((cENs (d ++ es.drop k)).set (k * 3) (.int .i64 q)).set (k * 3 + 1) (.int .i64 (q + 1))) * (stars ((d ++ es.drop k).map OwnI) * F)) := SepI.i_setRow (wr.setCell ⟨g, k * 3, none⟩ (.int .i64 q)) _ _ g (k * 3 + 1) (.int .i64 (q + 1)) _ _ _ _ _
      have HS4 : SepI ((wr.setCell ⟨g, k * 3, none⟩ (.int .i64 q)).setCell ⟨g, k * 3 + 1, none⟩ (.int .i64 (q + 1))) (Row 3 1 (.slice x.p x.l.length x.pc) x.l.length (ints x.l) * (Row 70 3 (.slice (some ⟨g, 0, none⟩) n c) n (((cENs (d ++ es.drop k)).set (k * 3) (.int .i64 q)).set (k * 3 + 1) (.int .i64 (q + 1))) * (stars ((d ++ es.drop (k + 1)).map OwnI) * F))) := by
        refine SepI.cast HS3 ?_
        rw [HG.out, starsE_upd d (es.drop (k + 1)) x x, star_assoc]
        exact star_left _ _ _
      refine (@markIntS _ _ _ _ x.l HS4 (q + 1 + 1) (by omega) (by omega) (by omega)).mono ?_
      rintro e w' ⟨rfl, HP'⟩
      have HS2 := HP'.sep
      have HE2 := HP'.ext
      clear HP' HS4 HS3
      go_wp2
      go_roundw
      case rel => exact ⟨k + 1, q + 1 + 1 + x.l.length, d ++ [⟨q, q + 1, x.p, x.pc, mkInts (q + 1 + 1) x.l.length⟩], by omega, by go_num, rfl, by omega, by omega, inferInstance, ⟨by simp [HD.out]⟩, SepI.cast HS2 (by
        have e1 := cENs_upd d (es.drop (k + 1)) x ⟨q, q + 1, x.p, x.pc, mkInts (q + 1 + 1) x.l.length⟩ k HD.out
        have e2 : (((cENs (d ++ x :: es.drop (k + 1))).set (k * 3) (.int .i64 q)).set (k * 3 + 1) (.int .i64 (q + 1))).set (k * 3 + 2) (.slice x.p x.l.length x.pc) = ((cENs (d ++ x :: es.drop (k + 1))).set (k * 3) (.int .i64 q)).set (k * 3 + 1) (.int .i64 (q + 1)) := by
          refine List.set_getElem?_self' ?_
          rw [List.getElem?_set_ne (by omega), List.getElem?_set_ne (by omega)]
          exact (cENs_get (by rw [List.getElem?_append_right (by rw [HD.out]; exact Nat.le_refl _), HD.out, Nat.sub_self]; rfl)).2.2
        simp only [mkInts_len] at e1
        rw [e2] at e1
        rw [HG.out, e1, List.append_assoc, List.cons_append, List.nil_append, starsE_upd d (es.drop (k + 1)) ⟨q, q + 1, x.p, x.pc, mkInts (q + 1 + 1) x.l.length⟩ x]
        unfold OwnI
        simp only [mkInts_len]
        ac_rfl)⟩
      case measure => simp [intOf]; omega
    · have : k = n := by omega
      subst this
      go_wp2
      go_ret
      exact ⟨q, rfl, hq0, Post.mk' HS.right.right HX⟩

theorem markErrors (S F : HP) (w : World) (A : Option Addr) (c : Nat) (es : List EN) [H : SepI w S] [p : Pick S (OwnE (.slice A es.length c) es) F] (hs : ∀ x ∈ es, x.l.length ≤ 1048576) (hl : es.length ≤ 1048576) :
    Calls Try.prog 21 #[.agg #[.slice A es.length c], .int .i64 1] w fun e w' => ∃ r : Int, e = .returned (.int .i64 r) ∧ 0 ≤ r ∧ Post w F w' := by
  go_enter Try.func21, Try.ntmps21
  go_wp2_with (go_at_call 59; refine (@markErrorNodeS _ _ _ _ es (SepI.pick (S := _) inferInstance inferInstance) hs hl).mono ?_; rintro e w' ⟨r, rfl, hr, HP'⟩; have HS2 := HP'.sep; have HE2 := HP'.ext; clear HP')
  go_ret
  exact ⟨r, rfl, hr, Post.mk' (Ent.sep (S := _) inferInstance inferInstance) inferInstance⟩
end Go.Proofs.Ytnmbmdigiaokjaa
