/- Programs marked, and held against their marks, exactly. Conditions: lengths within bounds. -/
import Derived.Test.YtnioipbofopocaaDoorLw
namespace Go.Proofs.YtnioipbofopocaaDoor
open Go.RowKit SL
attribute [local go_sem] cell_blk frozen_blk lt_blk cell_at frozen_row lt_row
set_option linter.unusedVariables false
set_option linter.unusedSimpArgs false

theorem mkSts_get (q : Int) : ∀ {n k : Nat}, k < n → (mkSts q n)[k]? = some ⟨q + 3 * k, q + 3 * k + 1, q + 3 * k + 1 + 1⟩
  | 0, k, h => by omega
  | n + 1, k, h => by
    by_cases hk : k < n
    · rw [mkSts, List.getElem?_append_left (by rw [mkSts_len]; exact hk)]; exact mkSts_get q hk
    · have : k = n := by omega
      subst this
      rw [mkSts, List.getElem?_append_right (by rw [mkSts_len]; exact Nat.le_refl _), mkSts_len, Nat.sub_self]
      rfl

set_option maxRecDepth 100000 in
set_option maxHeartbeats 1000000 in
theorem heldStepS (S : HP) (w : World) [H : SepI w S] (A : Option Addr) (c n : Nat) (q : Int) [r : Rd S A (cSts (mkSts q n))] (hn : n ≤ 1048576) (h0 : 0 ≤ q) (h1 : q ≤ 4611686018427387904) :
    Calls Tryd.prog 95 #[.slice A n c, .int .i64 q] w fun e w' => e = .returned (.int .i64 (q + 3 * n)) ∧ w' = w := by
  go_enter Tryd.func95, Tryd.ntmps95
  go_wp2
  go_loop [1, 5] (fun v i => ∃ k : Nat, k ≤ n ∧ i = .int .i64 k ∧ v = .int .i64 (q + 3 * k)) (fun _ i => n - (intOf i).toNat)
  case atStart => exact ⟨0, Nat.zero_le _, rfl, by simp⟩
  case round =>
    obtain ⟨k, hk, rfl, rfl⟩ := hrel
    by_cases hlt : k < n
    · obtain ⟨b, off, rfl⟩ := r.addr H (j := k) (by rw [cSts_len, mkSts_len]; omega)
      have c1 := r.cell (cSts_get (mkSts_get q hlt)).1
      have c2 := r.cell (cSts_get (mkSts_get q hlt)).2.1
      have c3 := r.cell (cSts_get (mkSts_get q hlt)).2.2
      simp only at c1 c2 c3
      go_wp2
      go_round
      case rel => exact ⟨k + 1, by omega, by go_num, by go_num⟩
      case measure => simp [intOf]; omega
    · have : k = n := by omega
      subst this
      go_wp2
      go_ret
      exact ⟨rfl, rfl⟩

/-- A program's marks: the bodies, and the last mark. -/
def mkQ (q : Int) : List Bd → Int
  | [] => q
  | b :: r => mkQ (q + 3 * b.l.length) r
def mkBds (q : Int) : List Bd → List Bd
  | [] => []
  | b :: r => ⟨b.p, b.c, mkSts q b.l.length⟩ :: mkBds (q + 3 * b.l.length) r
theorem mkQ_snoc (l : List Bd) (x : Bd) : ∀ q, mkQ q (l ++ [x]) = mkQ q l + 3 * x.l.length := by
  induction l with
  | nil => intro q; rfl
  | cons b r ih => intro q; exact ih _
theorem mkBds_snoc (l : List Bd) (x : Bd) : ∀ q, mkBds q (l ++ [x]) = mkBds q l ++ [⟨x.p, x.c, mkSts (mkQ q l) x.l.length⟩] := by
  induction l with
  | nil => intro q; rfl
  | cons b r ih => intro q; simp only [List.cons_append, mkBds, mkQ, ih]
theorem mkBds_len (l : List Bd) : ∀ q, (mkBds q l).length = l.length := by
  induction l with
  | nil => intro q; rfl
  | cons b r ih => intro q; simp [mkBds, ih]
theorem mkBds_cells (l : List Bd) : ∀ q, cBds (mkBds q l) = cBds l := by
  induction l with
  | nil => intro q; rfl
  | cons b r ih => intro q; simp only [mkBds, cBds, List.map_cons] at ih ⊢; rw [ih]; simp [cBd, mkSts_len]
theorem mkBds_get (l : List Bd) : ∀ (q : Int) {k : Nat} {x : Bd}, l[k]? = some x → (mkBds q l)[k]? = some ⟨x.p, x.c, mkSts (mkQ q (l.take k)) x.l.length⟩ := by
  induction l with
  | nil => intro q k x h; simp at h
  | cons b r ih =>
    intro q k x h
    cases k with
    | zero => simp at h; subst h; rfl
    | succ k => simp at h; exact ih _ h
theorem mkBds_small {l : List Bd} (h : ∀ x ∈ l, x.l.length ≤ 1048576) : ∀ q, ∀ x ∈ mkBds q l, x.l.length ≤ 1048576 := by
  intro q x hx
  obtain ⟨k, hk⟩ := List.getElem?_of_mem hx
  have hlt := (List.getElem?_eq_some_iff.1 hk).1
  rw [mkBds_len] at hlt
  obtain ⟨y, hy⟩ := get_ex hlt
  rw [mkBds_get l q hy] at hk
  injection hk with hk
  subst hk
  simp only [mkSts_len]
  exact h y (List.mem_of_getElem? hy)

set_option maxRecDepth 100000 in
set_option maxHeartbeats 1000000 in
theorem heldStepSS (S : HP) (w : World) [H : SepI w S] (A : Option Addr) (c : Nat) (bs : List Bd) [r : Rd S A (cBds bs)] [B : Bodies S (mkBds 1 bs)] (hs : ∀ x ∈ bs, x.l.length ≤ 1048576) (hn : bs.length ≤ 1048576) :
    Calls Tryd.prog 66 #[.slice A bs.length c, .int .i64 1] w fun e w' => e = .returned (.int .i64 (mkQ 1 bs)) ∧ w' = w := by
  obtain ⟨n, hn'⟩ : ∃ n, n = bs.length := ⟨_, rfl⟩
  have HN := Hd.mk hn'
  have HB := Hd.mk B
  have HS0 := Hd.mk hs
  rw [← hn'] at hn ⊢
  clear hn' B hs
  go_enter Tryd.func66, Tryd.ntmps66
  go_wp2
  go_loop [1, 5] (fun v i => ∃ (k : Nat) (q : Int), k ≤ n ∧ i = .int .i64 k ∧ v = .int .i64 q ∧ 0 ≤ q ∧ q ≤ 1 + 3145728 * k ∧ Hd (mkQ 1 (bs.take k) = q)) (fun _ i => n - (intOf i).toNat)
  case atStart => exact ⟨0, 1, Nat.zero_le _, rfl, rfl, by omega, by omega, ⟨rfl⟩⟩
  case round =>
    obtain ⟨k, q, hk, rfl, rfl, hq0, hq1, HQ⟩ := hrel
    by_cases hlt : k < n
    · obtain ⟨x, hx⟩ := get_ex (xs := bs) (k := k) (by rw [← HN.out]; exact hlt)
      obtain ⟨b, off, rfl⟩ := r.addr H (j := k) (by rw [cBds_len, ← HN.out]; omega)
      have c1 := r.cell (cBds_get hx)
      have rx : Rd S x.p (cSts (mkSts q x.l.length)) := by
        have := HB.out.rd _ (List.mem_of_getElem? (mkBds_get bs 1 hx))
        rw [HQ.out] at this
        exact this
      have sx := HS0.out x (List.mem_of_getElem? hx)
      have HX := Hd.mk hx
      clear hx
      go_wp2_with (go_at_call 95; refine (heldStepS _ _ _ _ x.l.length q sx hq0 (by omega)).mono ?_; rintro e w' ⟨rfl, rfl⟩)
      go_round
      case rel => exact ⟨k + 1, q + 3 * x.l.length, by omega, by go_num, rfl, by omega, by omega, ⟨by rw [take_succ_eq HX.out, mkQ_snoc, HQ.out]⟩⟩
      case measure => simp [intOf]; omega
    · have : k = n := by omega
      subst this
      go_wp2
      go_ret
      exact ⟨ret_i (by have := HQ.out; rw [HN.out, List.take_length] at this; exact this.symm), rfl⟩

theorem mkQ_nonneg (l : List Bd) : ∀ q : Int, 0 ≤ q → 0 ≤ mkQ q l := by
  induction l with
  | nil => intro q h; exact h
  | cons b r ih => intro q h; exact ih _ (by omega)

theorem heldProgram (S : HP) (w : World) [H : SepI w S] (A : Option Addr) (c : Nat) (bs : List Bd) [r : Rd S A (cBds bs)] [B : Bodies S (mkBds 1 bs)] (hs : ∀ x ∈ bs, x.l.length ≤ 1048576) (hn : bs.length ≤ 1048576) :
    Calls Tryd.prog 33 #[.agg #[.slice A bs.length c], .int .i64 1] w fun e w' => e = .returned (.int .i64 (mkQ 1 bs)) ∧ Post w S w' := by
  have h0 := mkQ_nonneg bs 1 (by omega)
  go_enter Tryd.func33, Tryd.ntmps33
  go_wp2_with (go_at_call 66; refine (heldStepSS _ _ _ _ bs hs hn).mono ?_; rintro e w' ⟨rfl, rfl⟩)
  go_ret
  exact ⟨rfl, Post.mk' (Ent.sep (S := _) inferInstance inferInstance) inferInstance⟩

set_option maxRecDepth 100000 in
set_option maxHeartbeats 1000000 in
theorem markStepSSx (F : HP) (w : World) (A : Option Addr) (c : Nat) (bs : List Bd) [H : SepI w (OwnP (.slice A bs.length c) bs * F)] (hs : ∀ x ∈ bs, x.l.length ≤ 1048576) (hl : bs.length ≤ 1048576) :
    Calls Tryd.prog 65 #[.slice A bs.length c, .int .i64 1] w fun e w' => e = .returned (.int .i64 (mkQ 1 bs)) ∧ Post w (OwnP (.slice A bs.length c) (mkBds 1 bs) * F) w' := by
  obtain ⟨n, hn'⟩ : ∃ n, n = bs.length := ⟨_, rfl⟩
  have HN := Hd.mk hn'
  have HS0 := Hd.mk hs
  have H1 : SepI w (Row 76 1 (.slice A bs.length c) bs.length (cBds bs) * (stars (bs.map OwnB) * F)) := by rw [← star_assoc]; exact H
  clear H
  rw [← hn'] at hl H1 ⊢
  clear hn' hs
  go_enter Tryd.func65, Tryd.ntmps65
  go_wp2
  go_loopw [1, 5] (fun v i wr => ∃ (k : Nat) (q : Int), k ≤ n ∧ i = .int .i64 k ∧ v = .int .i64 q ∧ 0 ≤ q ∧ q ≤ 1 + 3145728 * k ∧ ExtI w wr ∧ Hd (mkQ 1 (bs.take k) = q) ∧
    SepI wr (Row 76 1 (.slice A n c) n (cBds bs) * (stars ((mkBds 1 (bs.take k) ++ bs.drop k).map OwnB) * F))) (fun _ i _ => n - (intOf i).toNat)
  case atStart => exact ⟨0, 1, Nat.zero_le _, rfl, rfl, by omega, by omega, inferInstance, ⟨rfl⟩, by simpa [mkBds] using H1⟩
  case round =>
    obtain ⟨k, q, hk, rfl, rfl, hq0, hq1, HX, HQ, HS⟩ := hrel
    by_cases hlt : k < n
    · obtain ⟨x, hx⟩ := get_ex (xs := bs) (k := k) (by rw [← HN.out]; exact hlt)
      obtain ⟨g, rfl⟩ := Row.addr HS (by omega)
      have d1 : CellAt _ g _ _ := Row.cellAt (e := 76) (size := 1) (g := g) (n := n) (c := c) (F := stars ((mkBds 1 (bs.take k) ++ bs.drop k).map OwnB) * F) (cBds_get hx)
      have sx := HS0.out x (List.mem_of_getElem? hx)
      have hd : bs.drop k = x :: bs.drop (k + 1) := by
        obtain ⟨hlt', e⟩ := List.getElem?_eq_some_iff.1 hx
        rw [List.drop_eq_getElem_cons hlt', e]
      have HG := Hd.mk hd
      have HGX := Hd.mk hx
      clear hx hd
      go_wp2_with fail
      have HS4 : SepI wr (Row 78 3 (.slice x.p x.l.length x.c) x.l.length (cSts x.l) * (Row 76 1 (.slice (some ⟨g, 0, none⟩) n c) n (cBds bs) * (stars ((mkBds 1 (bs.take k) ++ bs.drop (k + 1)).map OwnB) * F))) := by
        refine SepI.cast HS ?_
        rw [HG.out, stars_upd (mkBds 1 (bs.take k)) (bs.drop (k + 1)) x x, star_assoc]
        exact star_left _ _ _
      refine (@markStepS _ _ _ _ x.l HS4 q sx hq0 (by omega)).mono ?_
      rintro e w' ⟨rfl, HP'⟩
      have HS2 := HP'.sep
      have HE2 := HP'.ext
      clear HP' HS4
      go_wp2
      go_roundw
      case rel => exact ⟨k + 1, q + 3 * x.l.length, by omega, by go_num, rfl, by omega, by omega, inferInstance, ⟨by rw [take_succ_eq HGX.out, mkQ_snoc, HQ.out]⟩, SepI.cast HS2 (by
        rw [take_succ_eq HGX.out, mkBds_snoc, HQ.out, List.append_assoc, List.cons_append, List.nil_append, stars_upd (mkBds 1 (bs.take k)) (bs.drop (k + 1)) ⟨x.p, x.c, mkSts q x.l.length⟩ x]
        unfold OwnB
        simp only [mkSts_len]
        ac_rfl)⟩
      case measure => simp [intOf]; omega
    · have : k = n := by omega
      subst this
      go_wp2
      go_ret
      refine ⟨ret_i (by have := HQ.out; rw [HN.out, List.take_length] at this; exact this.symm), Post.mk' (SepI.cast HS ?_) HX⟩
      unfold OwnP
      rw [HN.out, List.take_length, List.drop_length, List.append_nil, mkBds_len, mkBds_cells, star_assoc]

theorem markProgramx (S F : HP) (w : World) (A : Option Addr) (c : Nat) (bs : List Bd) [H : SepI w S] [p : Pick S (OwnP (.slice A bs.length c) bs) F] (hs : ∀ x ∈ bs, x.l.length ≤ 1048576) (hl : bs.length ≤ 1048576) :
    Calls Tryd.prog 32 #[.agg #[.slice A bs.length c], .int .i64 1] w fun e w' => e = .returned (.int .i64 (mkQ 1 bs)) ∧ Post w (OwnP (.slice A bs.length c) (mkBds 1 bs) * F) w' := by
  go_enter Tryd.func32, Tryd.ntmps32
  go_wp2_with (go_at_call 65; refine (@markStepSSx _ _ _ _ bs (SepI.pick (S := _) inferInstance inferInstance) hs hl).mono ?_; rintro e w' ⟨rfl, HP'⟩; have HS2 := HP'.sep; have HE2 := HP'.ext; clear HP')
  go_ret
  exact ⟨rfl, Post.mk' (Ent.sep (S := _) inferInstance inferInstance) inferInstance⟩
end Go.Proofs.YtnioipbofopocaaDoor
