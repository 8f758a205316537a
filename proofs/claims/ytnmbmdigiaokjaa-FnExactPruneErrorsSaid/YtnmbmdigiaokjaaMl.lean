/- Errors' marks, told and held; the call's own errors as a result. Conditions: lengths within bounds. -/
import Derived.Test.YtnmbmdigiaokjaaMk
import Derived.Test.YtnmbmdigiaokjaaDf
namespace Go.Proofs.Ytnmbmdigiaokjaa
open Go.RowKit SL
attribute [local go_sem] cell_blk frozen_blk lt_blk cell_at frozen_row lt_row
set_option linter.unusedVariables false
set_option linter.unusedSimpArgs false

/-- Errors' marks: the errors, and the last mark. -/
def mkEQ (q : Int) : List EN → Int
  | [] => q
  | b :: r => mkEQ (q + 1 + 1 + b.l.length) r
def mkEs (q : Int) : List EN → List EN
  | [] => []
  | b :: r => ⟨q, q + 1, b.p, b.pc, mkInts (q + 1 + 1) b.l.length⟩ :: mkEs (q + 1 + 1 + b.l.length) r
theorem mkEQ_snoc (l : List EN) (x : EN) : ∀ q, mkEQ q (l ++ [x]) = mkEQ q l + 1 + 1 + x.l.length := by
  induction l with
  | nil => intro q; rfl
  | cons b r ih => intro q; exact ih _
theorem mkEs_snoc (l : List EN) (x : EN) : ∀ q, mkEs q (l ++ [x]) = mkEs q l ++ [⟨mkEQ q l, mkEQ q l + 1, x.p, x.pc, mkInts (mkEQ q l + 1 + 1) x.l.length⟩] := by
  induction l with
  | nil => intro q; rfl
  | cons b r ih => intro q; simp only [List.cons_append, mkEs, mkEQ, ih]
theorem mkEs_len (l : List EN) : ∀ q, (mkEs q l).length = l.length := by
  induction l with
  | nil => intro q; rfl
  | cons b r ih => intro q; simp [mkEs, ih]
theorem mkEs_get (l : List EN) : ∀ (q : Int) {k : Nat} {x : EN}, l[k]? = some x → (mkEs q l)[k]? = some ⟨mkEQ q (l.take k), mkEQ q (l.take k) + 1, x.p, x.pc, mkInts (mkEQ q (l.take k) + 1 + 1) x.l.length⟩ := by
  induction l with
  | nil => intro q k x h; simp at h
  | cons b r ih =>
    intro q k x h
    cases k with
    | zero => simp at h; subst h; rfl
    | succ k => simp at h; exact ih _ h
theorem mkEs_small {l : List EN} (h : ∀ x ∈ l, x.l.length ≤ 1048576) : ∀ q, ∀ x ∈ mkEs q l, x.l.length ≤ 1048576 := by
  intro q x hx
  obtain ⟨k, hk⟩ := List.getElem?_of_mem hx
  have hlt := (List.getElem?_eq_some_iff.1 hk).1
  rw [mkEs_len] at hlt
  obtain ⟨y, hy⟩ := get_ex hlt
  rw [mkEs_get l q hy] at hk
  injection hk with hk
  subst hk
  simp only [mkInts_len]
  exact h y (List.mem_of_getElem? hy)
theorem mkEQ_nonneg (l : List EN) : ∀ q : Int, 0 ≤ q → 0 ≤ mkEQ q l := by
  induction l with
  | nil => intro q h; exact h
  | cons b r ih => intro q h; exact ih _ (by omega)
set_option maxRecDepth 100000 in
set_option maxHeartbeats 2000000 in
theorem markErrorNodeSx (F : HP) (w : World) (A : Option Addr) (c : Nat) (es : List EN) [H : SepI w (OwnE (.slice A es.length c) es * F)] (hs : ∀ x ∈ es, x.l.length ≤ 1048576) (hl : es.length ≤ 1048576) :
    Calls Try.prog 59 #[.slice A es.length c, .int .i64 1] w fun e w' => e = .returned (.int .i64 (mkEQ 1 es)) ∧ Post w (OwnE (.slice A es.length c) (mkEs 1 es) * F) w' := by
  obtain ⟨n, hn'⟩ : ∃ n, n = es.length := ⟨_, rfl⟩
  have HN := Hd.mk hn'
  have HS0 := Hd.mk hs
  have H1 : SepI w (Row 70 3 (.slice A es.length c) es.length (cENs es) * (stars (es.map OwnI) * F)) := by rw [← star_assoc]; exact H
  clear H
  rw [← hn'] at hl H1 ⊢
  clear hn' hs
  go_enter Try.func59, Try.ntmps59
  go_wp2
  go_loopw [1, 5] (fun v i wr => ∃ (k : Nat) (q : Int) (d : List EN), k ≤ n ∧ i = .int .i64 k ∧ v = .int .i64 q ∧ 0 ≤ q ∧ q ≤ 1 + 1048578 * k ∧ ExtI w wr ∧ Hd (d.length = k) ∧ Hd (d = mkEs 1 (es.take k)) ∧ Hd (q = mkEQ 1 (es.take k)) ∧
    SepI wr (Row 70 3 (.slice A n c) n (cENs (d ++ es.drop k)) * (stars ((d ++ es.drop k).map OwnI) * F))) (fun _ i _ => n - (intOf i).toNat)
  case atStart => exact ⟨0, 1, [], Nat.zero_le _, rfl, rfl, by omega, by omega, inferInstance, ⟨rfl⟩, ⟨rfl⟩, ⟨rfl⟩, by simpa using H1⟩
  case round =>
    obtain ⟨k, q, d, hk, rfl, rfl, hq0, hq1, HX, HD, HDD, HQQ, HS⟩ := hrel
    by_cases hlt : k < n
    · obtain ⟨x, hx⟩ := get_ex (xs := es) (k := k) (by rw [← HN.out]; exact hlt)
      obtain ⟨g, rfl⟩ := Row.addr HS (by omega)
      have hd : es.drop k = x :: es.drop (k + 1) := by
        obtain ⟨hlt', e⟩ := List.getElem?_eq_some_iff.1 hx
        rw [List.drop_eq_getElem_cons hlt', e]
      have hz : (d ++ es.drop k)[k]? = some x := by rw [List.getElem?_append_right (by rw [HD.out]; exact Nat.le_refl _), HD.out, Nat.sub_self, hd]; rfl
      have d1 : CellAt _ g _ _ := Row.cellAt (e := 70) (size := 3) (g := g) (n := n) (c := c) (F := stars ((d ++ es.drop k).map OwnI) * F) (cENs_get hz).1
      have d2 : CellAt _ g _ _ := Row.cellAt (e := 70) (size := 3) (g := g) (n := n) (c := c) (F := stars ((d ++ es.drop k).map OwnI) * F) (cENs_get hz).2.1
      have hz3 : ((((cENs (d ++ es.drop k)).set (k * 3) (.int .i64 q)).set (k * 3 + 1) (.int .i64 (q + 1))) : List Value)[k * 3 + 2]? = some (.slice x.p x.l.length x.pc) := by
        rw [List.getElem?_set_ne (by omega), List.getElem?_set_ne (by omega)]; exact (cENs_get hz).2.2
      have d3 : CellAt _ g _ _ := Row.cellAt (e := 70) (size := 3) (g := g) (n := n) (c := c) (F := stars ((d ++ es.drop k).map OwnI) * F) hz3
      have sx := HS0.out x (List.mem_of_getElem? hx)
      have HG := Hd.mk hd
      have HXX := Hd.mk hx
      clear hx hz hz3 hd
      go_wp2_with fail
      have HS3 : SepI _ (Row 70 3 (.slice (some ⟨g, 0, none⟩) n c) n (((cENs (d ++ es.drop k)).set (k * 3) (.int .i64 q)).set (k * 3 + 1) (.int .i64 (q + 1))) * (stars ((d ++ es.drop k).map OwnI) * F)) := SepI.i_setRow (wr.setCell ⟨g, k * 3, none⟩ (.int .i64 q)) _ _ g (k * 3 + 1) (.int .i64 (q + 1)) _ _ _ _ _
      have HS4 : SepI ((wr.setCell ⟨g, k * 3, none⟩ (.int .i64 q)).setCell ⟨g, k * 3 + 1, none⟩ (.int .i64 (q + 1))) (Row 3 1 (.slice x.p x.l.length x.pc) x.l.length (ints x.l) * (Row 70 3 (.slice (some ⟨g, 0, none⟩) n c) n (((cENs (d ++ es.drop k)).set (k * 3) (.int .i64 q)).set (k * 3 + 1) (.int .i64 (q + 1))) * (stars ((d ++ es.drop (k + 1)).map OwnI) * F))) := by
        refine SepI.cast HS3 ?_
        rw [HG.out, starsE_upd d (es.drop (k + 1)) x x, star_assoc]
        exact star_left _ _ _
      refine (@markIntS _ _ _ _ x.l HS4 (q + 1 + 1) (by omega) (by omega) (by omega)).mono ?_
      rintro e w' ⟨rfl, HP'⟩
      have HS2 := HP'.sep
      have HE2 := HP'.ext
      clear HP' HS4 HS3
      go_wp2
      go_roundw
      case rel => exact ⟨k + 1, q + 1 + 1 + x.l.length, d ++ [⟨q, q + 1, x.p, x.pc, mkInts (q + 1 + 1) x.l.length⟩], by omega, by go_num, rfl, by omega, by omega, inferInstance, ⟨by simp [HD.out]⟩, ⟨by rw [take_succ_eq HXX.out, mkEs_snoc, ← HDD.out, ← HQQ.out]⟩, ⟨by rw [take_succ_eq HXX.out, mkEQ_snoc, ← HQQ.out]⟩, SepI.cast HS2 (by
        have e1 := cENs_upd d (es.drop (k + 1)) x ⟨q, q + 1, x.p, x.pc, mkInts (q + 1 + 1) x.l.length⟩ k HD.out
        have e2 : (((cENs (d ++ x :: es.drop (k + 1))).set (k * 3) (.int .i64 q)).set (k * 3 + 1) (.int .i64 (q + 1))).set (k * 3 + 2) (.slice x.p x.l.length x.pc) = ((cENs (d ++ x :: es.drop (k + 1))).set (k * 3) (.int .i64 q)).set (k * 3 + 1) (.int .i64 (q + 1)) := by
          refine List.set_getElem?_self' ?_
          rw [List.getElem?_set_ne (by omega), List.getElem?_set_ne (by omega)]
          exact (cENs_get (by rw [List.getElem?_append_right (by rw [HD.out]; exact Nat.le_refl _), HD.out, Nat.sub_self]; rfl)).2.2
        simp only [mkInts_len] at e1
        rw [e2] at e1
        rw [HG.out, e1, List.append_assoc, List.cons_append, List.nil_append, starsE_upd d (es.drop (k + 1)) ⟨q, q + 1, x.p, x.pc, mkInts (q + 1 + 1) x.l.length⟩ x]
        unfold OwnI
        simp only [mkInts_len]
        ac_rfl)⟩
      case measure => simp [intOf]; omega
    · have : k = n := by omega
      subst this
      go_wp2
      go_ret
      have e : es.take k = es := by rw [HN.out, List.take_length]
      have hdd := HDD.out
      have hqq := HQQ.out
      rw [e] at hdd hqq
      subst hdd
      refine ⟨ret_i hqq, Post.mk' (SepI.cast HS ?_) HX⟩
      rw [HN.out, List.drop_length, List.append_nil]
      unfold OwnE
      rw [mkEs_len, star_assoc]


theorem markErrorsx (S F : HP) (w : World) (A : Option Addr) (c : Nat) (es : List EN) [H : SepI w S] [p : Pick S (OwnE (.slice A es.length c) es) F] (hs : ∀ x ∈ es, x.l.length ≤ 1048576) (hl : es.length ≤ 1048576) :
    Calls Try.prog 21 #[.agg #[.slice A es.length c], .int .i64 1] w fun e w' => e = .returned (.int .i64 (mkEQ 1 es)) ∧ Post w (OwnE (.slice A es.length c) (mkEs 1 es) * F) w' := by
  go_enter Try.func21, Try.ntmps21
  go_wp2_with (go_at_call 59; refine (@markErrorNodeSx _ _ _ _ es (SepI.pick (S := _) inferInstance inferInstance) hs hl).mono ?_; rintro e w' ⟨rfl, HP'⟩; have HS2 := HP'.sep; have HE2 := HP'.ext; clear HP')
  go_ret
  exact ⟨rfl, Post.mk' (Ent.sep (S := _) inferInstance inferInstance) inferInstance⟩

set_option maxRecDepth 100000 in
set_option maxHeartbeats 2000000 in
theorem heldErrorNodeS (S : HP) (w : World) [H : SepI w S] (A : Option Addr) (c : Nat) (es : List EN) [r : Rd S A (cENs (mkEs 1 es))] [B : Nodes S (mkEs 1 es)] (hs : ∀ x ∈ es, x.l.length ≤ 1048576) (hn : es.length ≤ 1048576) :
    Calls Try.prog 63 #[.slice A es.length c, .int .i64 1] w fun e w' => e = .returned (.int .i64 (mkEQ 1 es)) ∧ w' = w := by
  obtain ⟨n, hn'⟩ : ∃ n, n = es.length := ⟨_, rfl⟩
  have HN := Hd.mk hn'
  have HB := Hd.mk B
  have HS0 := Hd.mk hs
  rw [← hn'] at hn ⊢
  clear hn' B hs
  go_enter Try.func63, Try.ntmps63
  go_wp2
  go_loop [1, 5] (fun v i => ∃ (k : Nat) (q : Int), k ≤ n ∧ i = .int .i64 k ∧ v = .int .i64 q ∧ 0 ≤ q ∧ q ≤ 1 + 1048578 * k ∧ Hd (mkEQ 1 (es.take k) = q)) (fun _ i => n - (intOf i).toNat)
  case atStart => exact ⟨0, 1, Nat.zero_le _, rfl, rfl, by omega, by omega, ⟨rfl⟩⟩
  case round =>
    obtain ⟨k, q, hk, rfl, rfl, hq0, hq1, HQ⟩ := hrel
    by_cases hlt : k < n
    · obtain ⟨x, hx⟩ := get_ex (xs := es) (k := k) (by rw [← HN.out]; exact hlt)
      obtain ⟨b, off, rfl⟩ := r.addr H (j := k) (by rw [cENs_len, mkEs_len, ← HN.out]; omega)
      have hg := mkEs_get es 1 hx
      rw [HQ.out] at hg
      have c1 := r.cell (cENs_get hg).1
      have c2 := r.cell (cENs_get hg).2.1
      have c3 := r.cell (cENs_get hg).2.2
      have rx : Rd S x.p (ints (mkInts (q + 1 + 1) x.l.length)) := HB.out.rd _ (List.mem_of_getElem? hg)
      rw [mkInts_len] at c3
      have sx := HS0.out x (List.mem_of_getElem? hx)
      have HX := Hd.mk hx
      clear hx hg
      go_wp2_with (go_at_call 23; refine (heldIntS _ _ _ _ x.l.length (q + 1 + 1) (by omega) (by omega) (by omega)).mono ?_; rintro e w' ⟨rfl, rfl⟩)
      go_round
      case rel => exact ⟨k + 1, q + 1 + 1 + x.l.length, by omega, by go_num, rfl, by omega, by omega, ⟨by rw [take_succ_eq HX.out, mkEQ_snoc, HQ.out]⟩⟩
      case measure => simp [intOf]; omega
    · have : k = n := by omega
      subst this
      go_wp2
      go_ret
      exact ⟨ret_i (by have := HQ.out; rw [HN.out, List.take_length] at this; exact this.symm), rfl⟩

theorem heldErrors (S : HP) (w : World) [H : SepI w S] (A : Option Addr) (c : Nat) (es : List EN) [r : Rd S A (cENs (mkEs 1 es))] [B : Nodes S (mkEs 1 es)] (hs : ∀ x ∈ es, x.l.length ≤ 1048576) (hn : es.length ≤ 1048576) :
    Calls Try.prog 26 #[.agg #[.slice A es.length c], .int .i64 1] w fun e w' => e = .returned (.int .i64 (mkEQ 1 es)) ∧ Post w S w' := by
  have h0 := mkEQ_nonneg es 1 (by omega)
  go_enter Try.func26, Try.ntmps26
  go_wp2_with (go_at_call 63; refine (heldErrorNodeS _ _ _ _ es hs hn).mono ?_; rintro e w' ⟨rfl, rfl⟩)
  go_ret
  exact ⟨rfl, Post.mk' (Ent.sep (S := _) inferInstance inferInstance) inferInstance⟩
/-- A call that hands back errors of its own, and a bool. -/
def ErrOk (S : HP) (l : List EC) (ok : Bool) (w : World) (e : Ending) (w' : World) : Prop := ∃ A c es, e = two (.agg #[.slice A es.length c]) (.bool ok) ∧ es.map ecOf = l ∧ Post w (OwnE (.slice A es.length c) es * S) w'
end Go.Proofs.Ytnmbmdigiaokjaa
