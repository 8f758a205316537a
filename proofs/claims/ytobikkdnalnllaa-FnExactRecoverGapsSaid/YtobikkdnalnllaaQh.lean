/- The reference's machine: the copy of the program. Conditions: lengths within bounds. -/
import Derived.Test.YtobikkdnalnllaaNo
import Derived.Test.YtobikkdnalnllaaQa
import Derived.Test.YtobikkdnalnllaaQb
namespace Go.Proofs.Ytobikkdnalnllaa
open Go.RowKit SL
attribute [local go_sem] cell_blk frozen_blk lt_blk cell_at frozen_row lt_row
set_option linter.unusedVariables false
set_option linter.unusedSimpArgs false
theorem cSts_one (l : List St) : ∀ u ∈ cSts l, u.oneCell' = true := fun u hu => by
  unfold cSts at hu
  obtain ⟨s, _, hs⟩ := List.mem_flatMap.1 hu
  simp only [cSt, List.mem_cons, List.not_mem_nil, or_false] at hs
  rcases hs with rfl | rfl | rfl <;> rfl
/-- A body with no memory is empty. -/
def NoneNil (bs : List Bd) : Prop := ∀ x ∈ bs, x.p = none → x.l.length = 0 ∧ x.c = 0
theorem NoneNil.of {w : World} {v : Value} {bs : List Bd} {F : HP} (H : SepI w (OwnP v bs * F)) : NoneNil bs := fun x hx => by
  obtain ⟨R, hR⟩ := stars_pick (List.mem_map.2 ⟨x, hx, rfl⟩ : OwnB x ∈ bs.map OwnB)
  have H1 : SepI w (OwnB x * (Row 127 1 v bs.length (cBds bs) * (R * F))) := by
    refine SepI.cast H ?_
    unfold OwnP
    rw [hR]
    ac_rfl
  exact Row.none_nil H1
/-- What l2Own hands back. -/
def OwnPost (S : HP) (n : Nat) (bs : List Bd) (w : World) (e : Ending) (w' : World) : Prop := ∃ A' c' bs', e = .returned (.agg #[.slice A' n c']) ∧ bs'.map (·.l) = bs.map (·.l) ∧ Post w (OwnP (.slice A' n c') bs' * S) w'
set_option maxRecDepth 100000 in
set_option maxHeartbeats 4000000 in
theorem spec_l2Own (S : HP) (w : World) [H : SepI w S] (A : Option Addr) (n c : Nat) (bs : List Bd) [r : Rd S A (cBds bs)] [B : Bodies S bs] (hn : bs.length = n) (hnn : NoneNil bs) :
    Calls Try.prog 102 #[.agg #[.slice A n c]] w (OwnPost S n bs w) := by
  have HN := Hd.mk hn
  have HNZ := Hd.mk hnn
  have hn2 : n ≤ 1048576 := by rw [← hn]; exact B.n
  have HB := Hd.mk B
  clear hn hnn B
  go_enter Try.func102, Try.ntmps102
  go_wp2
  go_loopw [4] (fun i wr => ∃ (k : Nat) (d : List Bd) (A1 : Option Addr) (c1 : Nat), k ≤ n ∧ i = .int .i64 k ∧ ExtI w wr ∧ Hd (d.length = k) ∧ Hd (d.map (·.l) = (bs.take k).map (·.l)) ∧ SepI wr (Row 127 1 (.slice A1 k c1) k (cBds d) * (stars (d.map OwnB) * (pts (w.heap.size + 1 + 1 + 1) (.cells #[.slice A1 k c1] 31 (0, 0)) * (pts (w.heap.size + 1) (.cells #[.slice none 0 0] 31 (0, 0)) * (pts (w.heap.size) (.cells #[.slice A n c] 31 (0, 0)) * S)))))) (fun i _ => n - (intOf i).toNat)
  case atStart => exact ⟨0, [], some ⟨w.heap.size + 1 + 1, 0, none⟩, 0, Nat.zero_le _, rfl, inferInstance, ⟨rfl⟩, ⟨rfl⟩, Row.lit0 (size := 1) (SepI.cast (SepI.emp (Ent.sep (S := _) (T := pts (w.heap.size + 1 + 1) (.cells #[] 127 (0, 0)) * (pts (w.heap.size + 1 + 1 + 1) (.cells #[.slice (some ⟨w.heap.size + 1 + 1, 0, none⟩) 0 0] 31 (0, 0)) * (pts (w.heap.size + 1) (.cells #[.slice none 0 0] 31 (0, 0)) * (pts (w.heap.size) (.cells #[.slice A n c] 31 (0, 0)) * S)))) inferInstance inferInstance)) (star_left _ _ _))⟩
  case round =>
    obtain ⟨k, d, A1, c1, hk, rfl, HX, HD, HL, HS⟩ := hrel
    by_cases hlt : k < n
    · obtain ⟨x, hx⟩ := get_ex (xs := bs) (k := k) (by rw [HN.out]; exact hlt)
      obtain ⟨b0, off, rfl⟩ := r.addr H (j := k) (by rw [cBds_len, HN.out]; omega)
      have e1 := r.cell (cBds_get hx)
      have rx := HB.out.rd x (List.mem_of_getElem? hx)
      have sx := HB.out.small x (List.mem_of_getElem? hx)
      have hz := HNZ.out x (List.mem_of_getElem? hx)
      have HG := Hd.mk hx
      obtain ⟨xp, xc, xl⟩ := x
      simp only at e1 rx sx hz
      obtain ⟨nx, hnx⟩ : ∃ nx, nx = xl.length := ⟨_, rfl⟩
      rw [← hnx] at e1 sx hz
      have HNX := Hd.mk hnx
      have HNN := Hd.mk hz
      clear hx hz hnx
      go_wp2_with fail
      refine wp_region_T 11 (by kernel_rfl) (by kernel_rfl) (fun w' => w'.cell? ⟨w.heap.size + 1 + 1 + 1, 0, none⟩ = some (.slice A1 k c1) ∧ w'.cell? ⟨w.heap.size, 0, none⟩ = some (.slice (some ⟨b0, off, none⟩) n c) ∧ w'.cell? ⟨b0, off + k, none⟩ = some (.slice xp nx xc)) ⟨cb, cb, cell_at _ _ _ _ _⟩ (fun hHeld => ?_)
      refine wpAnyT_takeL (i := 0) (v := ?_) rfl (by as_aux_lemma => kernel_rfl) (by as_aux_lemma => kernel_rfl) (by as_aux_lemma => kernel_rfl) (by as_aux_lemma => kernel_rfl) (by as_aux_lemma => kernel_rfl) (fun _ _ _ h => h) (Or.inl ⟨by rfl, ?_⟩) (by assumption) ?_
      rotate_left
      · (intro w hSw; (try dsimp only at hSw); go_simp; try with_reducible rfl)
      try simp only [Act.put, List.setIfInBounds_toArray, List.set_cons_zero, List.set_cons_succ]
      refine wpAnyT_takeL (i := 1) (v := ?_) rfl (by as_aux_lemma => kernel_rfl) (by as_aux_lemma => kernel_rfl) (by as_aux_lemma => kernel_rfl) (by as_aux_lemma => kernel_rfl) (by as_aux_lemma => kernel_rfl) (fun _ _ _ h => h) (Or.inl ⟨by rfl, ?_⟩) (by assumption) ?_
      rotate_left
      · (intro w hSw; (try dsimp only at hSw); go_simp; try with_reducible rfl)
      try simp only [Act.put, List.setIfInBounds_toArray, List.set_cons_zero, List.set_cons_succ]
      refine wpAnyT_takeL (i := 3) (v := ?_) rfl (by as_aux_lemma => kernel_rfl) (by as_aux_lemma => kernel_rfl) (by as_aux_lemma => kernel_rfl) (by as_aux_lemma => kernel_rfl) (by as_aux_lemma => kernel_rfl) (fun _ _ _ h => h) (Or.inl ⟨by rfl, ?_⟩) (by assumption) ?_
      rotate_left
      · (intro w hSw; (try dsimp only at hSw); go_simp; try with_reducible rfl)
      try simp only [Act.put, List.setIfInBounds_toArray, List.set_cons_zero, List.set_cons_succ]
      refine wpAnyT_takeL (i := 4) (v := ?_) rfl (by as_aux_lemma => kernel_rfl) (by as_aux_lemma => kernel_rfl) (by as_aux_lemma => kernel_rfl) (by as_aux_lemma => kernel_rfl) (by as_aux_lemma => kernel_rfl) (fun _ _ _ h => h) (Or.inl ⟨by rfl, ?_⟩) (by assumption) ?_
      rotate_left
      · (intro w hSw; (try dsimp only at hSw); go_simp; try with_reducible rfl)
      try simp only [Act.put, List.setIfInBounds_toArray, List.set_cons_zero, List.set_cons_succ]
      refine wpAnyT_takeL (i := 5) (v := ?_) rfl (by as_aux_lemma => kernel_rfl) (by as_aux_lemma => kernel_rfl) (by as_aux_lemma => kernel_rfl) (by as_aux_lemma => kernel_rfl) (by as_aux_lemma => kernel_rfl) (fun _ _ _ h => h) (Or.inl ⟨by rfl, ?_⟩) (by assumption) ?_
      rotate_left
      · (intro w hSw; (try dsimp only at hSw); go_simp; try with_reducible rfl)
      try simp only [Act.put, List.setIfInBounds_toArray, List.set_cons_zero, List.set_cons_succ]
      refine wpAnyT_takeL (i := 6) (v := ?_) rfl (by as_aux_lemma => kernel_rfl) (by as_aux_lemma => kernel_rfl) (by as_aux_lemma => kernel_rfl) (by as_aux_lemma => kernel_rfl) (by as_aux_lemma => kernel_rfl) (fun _ _ _ h => h) (Or.inl ⟨by rfl, ?_⟩) (by assumption) ?_
      rotate_left
      · (intro w hSw; (try dsimp only at hSw); go_simp; try with_reducible rfl)
      try simp only [Act.put, List.setIfInBounds_toArray, List.set_cons_zero, List.set_cons_succ]
      refine wpAnyT_takeL (i := 7) (v := ?_) rfl (by as_aux_lemma => kernel_rfl) (by as_aux_lemma => kernel_rfl) (by as_aux_lemma => kernel_rfl) (by as_aux_lemma => kernel_rfl) (by as_aux_lemma => kernel_rfl) (fun _ _ _ h => h) (Or.inl ⟨by rfl, ?_⟩) (by assumption) ?_
      rotate_left
      · (intro w hSw; (try dsimp only at hSw); go_simp; try with_reducible rfl)
      try simp only [Act.put, List.setIfInBounds_toArray, List.set_cons_zero, List.set_cons_succ]
      refine wpAnyT_one (i := 2) (by kernel_rfl) rfl (by kernel_rfl) (fun KK hKK => ?_)
      refine st_list rfl ?_
      go_wp2
      refine ⟨rfl, ?_⟩
      refine hKK.out _ _ ⟨cb, cb, cell_at _ _ _ _ _⟩ (fun hHeld => ?_)
      clear hKK KK
      try simp only [Act.put, List.setIfInBounds_toArray, List.set_cons_zero, List.set_cons_succ]
      refine wpAnyT_one (i := 8) (by kernel_rfl) rfl (by kernel_rfl) (fun KK hKK => ?_)
      refine st_list rfl (ev_appendR (H := Row.lit0 (size := 3) (SepI.pick (A := pts wr.heap.size (.cells #[] 141 (0, 0))) inferInstance inferInstance)) (v := .slice (some ⟨wr.heap.size, 0, none⟩) 0 0) rfl _ _ 127 rfl rfl 24 _ Try.underlying127 info_step rfl (by decide) (by decide) xp nx xc rfl (rx := @Rd.there _ _ _ _ (@Rd.there _ _ _ _ (@Rd.there _ _ _ _ (@Rd.there _ _ _ _ (@Rd.there _ _ _ _ (@Rd.there _ _ _ _ rx)))))) HNN.out (by rw [cSts_len, HNX.out]) (cSts_one _) (by omega) ?_)
      rw [Nat.zero_add, List.nil_append]
      intro v5 w5 HS5 HE5
      obtain ⟨A5, c5, rfl, hc5, hc5'⟩ := Row.form HS5
      clear hc5 hc5'
      refine ⟨rfl, ?_⟩
      refine hKK.out _ _ ⟨cb, cb, cell_at _ _ _ _ _⟩ (fun hHeld => ?_)
      clear hKK KK
      try simp only [Act.put, List.setIfInBounds_toArray, List.set_cons_zero, List.set_cons_succ]
      refine wpAnyT_one (i := 9) (by kernel_rfl) rfl (by kernel_rfl) (fun KK hKK => ?_)
      refine st_list rfl ?_
      go_wp2
      refine ⟨rfl, ?_⟩
      refine hKK.out _ _ ⟨cb, cb, cell_at _ _ _ _ _⟩ (fun hHeld => ?_)
      clear hKK KK
      try simp only [Act.put, List.setIfInBounds_toArray, List.set_cons_zero, List.set_cons_succ]
      refine wpAnyT_one (i := 10) (by kernel_rfl) rfl (by kernel_rfl) (fun KK hKK => ?_)
      refine st_list rfl (ev_append (v := .slice A1 k c1) rfl _ _ 29 rfl rfl 24 _ Try.underlying29 info_body rfl (by decide) (by decide) w5.heap.size 1 1 rfl rfl (by simp [Value.oneCell']) (by omega) ?_)
      intro v6 w6 HS6 HE6
      obtain ⟨A6, c6, rfl, hc6, hc6'⟩ := Row.form HS6
      clear hc6 hc6'
      refine ⟨rfl, ?_⟩
      refine hKK.out _ _ ⟨cb, cb, cell_at _ _ _ _ _⟩ (fun hHeld => ?_)
      clear hKK KK
      try simp only [Act.put, List.setIfInBounds_toArray, List.set_cons_zero, List.set_cons_succ]
      refine wpAnyT_done (by kernel_rfl) ?_
      go_wp2
      go_roundw
      case rel => exact ⟨k + 1, d ++ [⟨A5, c5, xl⟩], A6, c6, by omega, by go_num, inferInstance, ⟨by simp [HD.out]⟩, ⟨by rw [take_succ_eq HG.out, List.map_append, List.map_append, HL.out]; rfl⟩, SepI.cast (Ent.sep (S := _) (T := Row 127 1 (.slice A6 (k + 1) c6) (k + 1) (cBds d ++ #[Value.slice A5 nx c5].toList) * (Row 141 3 (.slice A5 nx c5) nx (cSts xl) * (stars (d.map OwnB) * (pts (w.heap.size + 1 + 1 + 1) (.cells (#[Value.slice A1 k c1].setIfInBounds 0 (.slice A6 (k + 1) c6)) 31 (0, 0)) * (pts (w.heap.size + 1) (.cells #[.slice none 0 0] 31 (0, 0)) * (pts (w.heap.size) (.cells #[.slice (some ⟨b0, off, none⟩) n c] 31 (0, 0)) * S)))))) inferInstance inferInstance) (by
        rw [List.map_append, List.map_cons, List.map_nil, stars_snoc, star_assoc, cBds_append, HNX.out]; rfl)⟩
      case measure => simp [intOf]; omega
    · have : k = n := by omega
      subst this
      go_wp2
      refine bodyPost_ret (v := .agg #[.slice A1 k c1]) (by simp [results, Try.results102, go_sem]) rfl ?_
      refine ⟨A1, c1, d, rfl, by rw [HL.out, ← HN.out, List.take_length], Post.mk' (SepI.cast (Ent.sep (S := _) (T := Row 127 1 (.slice A1 k c1) k (cBds d) * (stars (d.map OwnB) * S)) inferInstance inferInstance) (by unfold OwnP; rw [HD.out, star_assoc])) inferInstance⟩
end Go.Proofs.Ytobikkdnalnllaa
namespace Go.Proofs.Ytobikkdnalnllaa
open Go.RowKit SL
attribute [local go_sem] cell_blk frozen_blk lt_blk cell_at frozen_row lt_row
set_option linter.unusedVariables false
set_option linter.unusedSimpArgs false
/-- The arguments of a run are valid. -/
def askB (L : List (List St)) (f arg fuel : Int) : Bool := progB L && (inB f 0 ((L.length : Int) - 1) && (inB arg (-32768) 32767 && inB fuel 0 200))
theorem inB_of {n lo hi : Int} (h : inB n lo hi = true) : lo ≤ n ∧ n ≤ hi := by unfold inB at h; simpa using h
theorem stepOk_of {s : St} {n : Nat} (h : stepB s n = true) : StepOk n s := by
  obtain ⟨k, a, b⟩ := s
  unfold stepB at h
  simp only at h
  unfold StepOk n16
  simp only
  split at h
  · simp only [Bool.and_eq_true] at h
    have h1 := inB_of h.1; have h2 := inB_of h.2
    refine ⟨by omega, by omega, ?_, ?_, ?_, ?_, ?_⟩ <;> intro _ <;> omega
  split at h
  · simp only [Bool.and_eq_true] at h
    have h1 := inB_of h.1; have h2 := inB_of h.2
    refine ⟨by omega, by omega, ?_, ?_, ?_, ?_, ?_⟩ <;> intro _ <;> omega
  split at h
  · simp only [Bool.and_eq_true] at h
    have h1 := inB_of h.1; have h2 := inB_of h.2
    refine ⟨by omega, by omega, ?_, ?_, ?_, ?_, ?_⟩ <;> intro _ <;> omega
  split at h
  · simp only [Bool.and_eq_true] at h
    have h1 := inB_of h.1; have h2 := inB_of h.2
    refine ⟨by omega, by omega, ?_, ?_, ?_, ?_, ?_⟩ <;> intro _ <;> omega
  split at h
  · refine ⟨by omega, by omega, ?_, ?_, ?_, ?_, ?_⟩ <;> intro _ <;> omega
  · simp only [Bool.and_eq_true] at h
    have h1 := inB_of h.1; have h2 := inB_of h.2.1
    refine ⟨by omega, by omega, ?_, ?_, ?_, ?_, ?_⟩ <;> intro _ <;> omega
theorem progOk_of {L : List (List St)} (h : progB L = true) : ProgOk L := fun fn s hs => by
  unfold progB at h
  simp only [Bool.and_eq_true] at h
  unfold bodyOf at hs
  rw [List.getD_eq_getElem?_getD] at hs
  cases e : L[fn.toNat]? with
  | none => rw [e] at hs; cases hs
  | some x =>
    rw [e] at hs
    have h1 := List.all_eq_true.1 h.2 x (List.mem_of_getElem? e)
    unfold bodyB at h1
    simp only [Bool.and_eq_true] at h1
    exact stepOk_of (List.all_eq_true.1 h1.2 s hs)
theorem jumpOk_of {L : List (List St)} (h : ProgOk L) : JumpOk L := fun fn s hs k => ((h fn s hs).2.2.2.2.2.1 k).1
theorem bodyLen_of {L : List (List St)} (h : progB L = true) (fn : Int) : (bodyOf L fn).length ≤ 8 := by
  unfold progB at h
  simp only [Bool.and_eq_true] at h
  unfold bodyOf
  rw [List.getD_eq_getElem?_getD]
  cases e : L[fn.toNat]? with
  | none => simp
  | some x =>
    have h1 := List.all_eq_true.1 h.2 x (List.mem_of_getElem? e)
    unfold bodyB at h1
    simp only [Bool.and_eq_true, decide_eq_true_eq] at h1
    exact h1.1
/-- What valid arguments are. -/
theorem askB_of {L : List (List St)} {f arg fuel : Int} (h : askB L f arg fuel = true) : ProgOk L ∧ FnOk L f ∧ n16 arg ∧ 0 ≤ fuel ∧ fuel ≤ 200 := by
  unfold askB at h
  simp only [Bool.and_eq_true] at h
  have h1 := inB_of h.2.1; have h2 := inB_of h.2.2.1; have h3 := inB_of h.2.2.2
  refine ⟨progOk_of h.1, ⟨h1.1, by omega⟩, ⟨h2.1, h2.2⟩, h3.1, h3.2⟩
def firstS (fn arg : Int) : SF := ⟨fn, 1, [arg, 0, 0, 0], [], 0, 0, false, false, false, 0, false, 0⟩
def noneS : SM := ⟨false, 0, 0, 0, [], []⟩
theorem preD_first {L : List (List St)} {fuel : Nat} {fn arg : Int} (h1 : FnOk L fn) (h2 : n16 arg) : PreD L fuel 1 noneS (firstS fn arg) := by
  refine ⟨rfl, ⟨Nat.zero_le _, n16_zero, Nat.le_refl _⟩, ⟨rfl, fun x hx => ?_, n16_zero, n16_zero, n16_zero, fun x hx => (by cases hx), h1⟩, ?_⟩
  · simp only [firstS, List.mem_cons, List.not_mem_nil, or_false] at hx
    rcases hx with rfl | rfl | rfl | rfl
    · exact h2
    all_goals exact n16_zero
  · show ((0 : Nat) : Int) ≤ 3 * ((0 : Nat) : Int) + 2 * 1
    omega
set_option maxRecDepth 100000 in
set_option maxHeartbeats 4000000 in
theorem spec_l2Call0 (L : List (List St)) (fu : Nat) (dep0 : Int) (hdep : 9 ≤ dep0) (A : Option Addr) (n c0 : Nat) (bs : List Bd) : CallC A n c0 bs (fu : Int) dep0 (PreD L fu dep0) (callS L fu 0) := by
  intro S w vt vs m c r rdA bd H hr hdf hdp hpre
  obtain ⟨sp, sh, mk, dp, t, sn⟩ := m
  obtain ⟨f, dep, rg, dfs, ki, va, lv, df, pg, pa, rc, ou⟩ := c
  simp only at hr hdf hdp H
  subst hr hdf hdp
  have H1 := Row.nil0 H 112 2
  clear H hpre
  obtain ⟨A1, c1, rfl, hc1, hc1'⟩ := Row.form H1.right
  obtain ⟨A2, c2, rfl, hc2, hc2'⟩ := Row.form H1.right.right
  clear hc1 hc1' hc2 hc2'
  have hd8 : (8 : Int) < dep := by omega
  have HR : Hd (callS L fu 0 (⟨sp, sh, mk, dp, t, sn⟩ : SM) (⟨f, dep, r.l, [], ki, va, lv, df, pg, pa, rc, ou⟩ : SF) = ((⟨true, sh, mk, dp, t, sn⟩ : SM), (⟨f, dep, r.l, [], ki, va, lv, df, pg, pa, rc, ou⟩ : SF))) := ⟨rfl⟩
  rw [HR.out]
  clear HR
  go_enter Try.func103, Try.ntmps103
  go_wp2
  refine wp_region_T 3 (by kernel_rfl) (by kernel_rfl) (fun w' => w'.cell? ⟨w.heap.size, 0, none⟩ = some (.slice A n c0) ∧ w'.cell? ⟨w.heap.size, 1, none⟩ = some (.int .i64 (fu : Int)) ∧ w'.cell? ⟨w.heap.size, 2, none⟩ = some (.bool true) ∧ w'.cell? ⟨w.heap.size, 3, none⟩ = some (.int .i64 sh) ∧ w'.cell? ⟨w.heap.size, 4, none⟩ = some (.int .i64 (mk : Int)) ∧ w'.cell? ⟨w.heap.size, 5, none⟩ = some (.int .i64 dp) ∧ w'.cell? ⟨w.heap.size, 6, none⟩ = some (.slice A1 t.length c1) ∧ w'.cell? ⟨w.heap.size, 7, none⟩ = some (.slice A2 sn.length c2) ∧ w'.cell? ⟨w.heap.size + 1, 0, none⟩ = some (.int .i64 f) ∧ w'.cell? ⟨w.heap.size + 1, 1, none⟩ = some (.int .i64 dep) ∧ w'.cell? ⟨w.heap.size + 1, 2, none⟩ = some (.int .i64 (r.a)) ∧ w'.cell? ⟨w.heap.size + 1, 3, none⟩ = some (.int .i64 (r.b)) ∧ w'.cell? ⟨w.heap.size + 1, 4, none⟩ = some (.int .i64 (r.c)) ∧ w'.cell? ⟨w.heap.size + 1, 5, none⟩ = some (.int .i64 (r.d)) ∧ w'.cell? ⟨w.heap.size + 1, 6, none⟩ = some (.slice none 0 0) ∧ w'.cell? ⟨w.heap.size + 1, 7, none⟩ = some (.int .i64 (ki)) ∧ w'.cell? ⟨w.heap.size + 1, 8, none⟩ = some (.int .i64 (va)) ∧ w'.cell? ⟨w.heap.size + 1, 9, none⟩ = some (.bool lv) ∧ w'.cell? ⟨w.heap.size + 1, 10, none⟩ = some (.bool df) ∧ w'.cell? ⟨w.heap.size + 1, 11, none⟩ = some (.bool pg) ∧ w'.cell? ⟨w.heap.size + 1, 12, none⟩ = some (.int .i64 pa) ∧ w'.cell? ⟨w.heap.size + 1, 13, none⟩ = some (.bool rc) ∧ w'.cell? ⟨w.heap.size + 1, 14, none⟩ = some (.int .i64 ou)) ⟨cb, cb, cb, cb, cb, cb, cb, cb, cb, cb, cb, cb, cb, cb, cb, cb, cb, cb, cb, cb, cb, cb, cb⟩ (fun hHeld => ?_)
  refine wpAnyT_takeL (i := 0) (v := ?_) rfl (by as_aux_lemma => kernel_rfl) (by as_aux_lemma => kernel_rfl) (by as_aux_lemma => kernel_rfl) (by as_aux_lemma => kernel_rfl) (by as_aux_lemma => kernel_rfl) (fun _ _ _ h => h) (Or.inl ⟨by rfl, ?_⟩) (by assumption) ?_
  rotate_left
  · (intro w hSw; (try dsimp only at hSw); go_simp; try with_reducible rfl)
  try simp only [Act.put, List.setIfInBounds_toArray, List.set_cons_zero, List.set_cons_succ]
  refine wpAnyT_takeL (i := 1) (v := ?_) rfl (by as_aux_lemma => kernel_rfl) (by as_aux_lemma => kernel_rfl) (by as_aux_lemma => kernel_rfl) (by as_aux_lemma => kernel_rfl) (by as_aux_lemma => kernel_rfl) (fun _ _ _ h => h) (Or.inl ⟨by rfl, ?_⟩) (by assumption) ?_
  rotate_left
  · (intro w hSw; (try dsimp only at hSw); go_simp; try with_reducible rfl)
  try simp only [Act.put, List.setIfInBounds_toArray, List.set_cons_zero, List.set_cons_succ]
  refine wpAnyT_one (i := 2) (by kernel_rfl) rfl (by kernel_rfl) (fun KK hKK => ?_)
  refine st_list rfl (ev_store rfl 121 _ _ rfl (w.heap.size + 1 + 1) #[Value.slice A n c0, .int .i64 (fu : Int), .bool true, .int .i64 sh, .int .i64 (mk : Int), .int .i64 dp, .slice A1 t.length c1, .slice A2 sn.length c2] rfl rfl info_sm (by rfl) (by simp [Value.oneCell']) ?_)
  intro w8 HS8 HE8
  refine ⟨rfl, ?_⟩
  refine hKK.out _ _ ⟨cb, cb, cb, cb, cb, cb, cb, cb, cb, cb, cb, cb, cb, cb, cb, cb, cb, cb, cb, cb, cb, cb, cb⟩ (fun hHeld => ?_)
  clear hKK KK
  try simp only [Act.put, List.setIfInBounds_toArray, List.set_cons_zero, List.set_cons_succ]
  refine wpAnyT_done (by kernel_rfl) ?_
  refine ev_store rfl 123 _ _ rfl (w.heap.size + 1 + 1 + 1) #[Value.int .i64 f, .int .i64 dep, .int .i64 (r.a), .int .i64 (r.b), .int .i64 (r.c), .int .i64 (r.d), .slice none 0 0, .int .i64 (ki), .int .i64 (va), .bool lv, .bool df, .bool pg, .int .i64 pa, .bool rc, .int .i64 ou] rfl rfl info_sf (by rfl) (by simp [Value.oneCell']) ?_
  intro w9 HS9 HE9
  go_wp2
  refine bodyPost_ret (v := .tuple #[mV (.slice A n c0) (.slice A1 t.length c1) (.slice A2 sn.length c2) (fu : Int) (⟨true, sh, mk, dp, t, sn⟩ : SM), fV (⟨f, dep, r.l, [], ki, va, lv, df, pg, pa, rc, ou⟩ : SF) r (.slice none 0 0)]) (by simp [results, Try.results103, go_sem]) rfl ?_
  exact CallP.of (m' := (⟨true, sh, mk, dp, t, sn⟩ : SM)) (c' := (⟨f, dep, r.l, [], ki, va, lv, df, pg, pa, rc, ou⟩ : SF)) (r := r) (vt := .slice A1 t.length c1) (vs := .slice A2 sn.length c2) (vd := .slice none 0 0) (k := 0) rfl rfl rfl (Post.mk' (Ent.sep (S := _) (T := Row 75 3 (.slice A1 t.length c1) t.length (cEvs t) * (Row 112 2 (.slice A2 sn.length c2) sn.length (cPr sn) * (Row 112 2 (.slice none 0 0) 0 [] * (S)))) inferInstance inferInstance) inferInstance)
theorem spec_l2Call (L : List (List St)) (hL : ProgOk L) (fu : Nat) (hfu : fu ≤ 100000) (A : Option Addr) (n c0 : Nat) (bs : List Bd) (hbs : bs.map (·.l) = L) (hn : bs.length = n) : ∀ (d : Nat) (dep : Int), dep + d = 9 → 1 ≤ dep → CallC A n c0 bs (fu : Int) dep (PreD L fu dep) (callS L fu d)
  | 0, dep, h1, h2 => spec_l2Call0 L fu dep (by omega) A n c0 bs
  | d + 1, dep, h1, h2 => spec_l2CallS L hL fu d hfu dep (by omega) A n c0 bs hbs hn (call_went hL fu d) (spec_l2Call L hL fu hfu A n c0 bs hbs hn d (dep + 1) (by omega) (by omega))
theorem SepI.prep {w : World} {g : Nat} {S : HP} (H : SepI w (pts g (.cells #[] 75 (0, 0)) * S)) : SepI w (Row 75 3 (.slice (some ⟨g, 0, none⟩) 0 0) noneS.trace.length (cEvs noneS.trace) * (Row 112 2 (.slice none 0 0) noneS.seen.length (cPr noneS.seen) * S)) :=
  SepI.cast (Row.nil0 (Row.lit0 (size := 3) H) 112 2) (star_left _ _ _)
/-- What l2Whole hands back. -/
def WholeP (S : HP) (n : Nat) (fuel : Int) (q : SM × SF) (w : World) (e : Ending) (w' : World) : Prop := ∃ A' c' vt vs vd r, e = .returned (.tuple #[mV (.slice A' n c') vt vs fuel q.1, fV q.2 r vd]) ∧ q.2.regs = r.l ∧ (∃ A3 n3 c3, vt = .slice A3 n3 c3) ∧ (∃ A4 n4 c4, vs = .slice A4 n4 c4) ∧ (∃ A5 n5 c5, vd = .slice A5 n5 c5) ∧ Post w (Row 75 3 (vt) q.1.trace.length (cEvs q.1.trace) * S) w'
set_option maxRecDepth 100000 in
set_option maxHeartbeats 4000000 in
theorem spec_l2Whole (S : HP) (w : World) [H : SepI w S] (A : Option Addr) (n c : Nat) (bs : List Bd) [r : Rd S A (cBds bs)] [B : Bodies S bs] (hn : bs.length = n) (hnn : NoneNil bs) (L : List (List St)) (hbs : bs.map (·.l) = L) (hL : ProgOk L) (fn arg : Int) (fu : Nat) (h1 : FnOk L fn) (h2 : n16 arg) (hfu : fu ≤ 100000) :
    Calls Try.prog 89 #[.agg #[.slice A n c], .int .i64 fn, .int .i64 arg, .int .i64 (fu : Int)] w (WholeP S n fu (wholeS L fn arg fu) w) := by
  have HN := Hd.mk hn
  have HB := Hd.mk B
  have HNN := Hd.mk hnn
  have HBS := Hd.mk hbs
  have HC : ∀ (A' : Option Addr) (c' : Nat) (bs' : List Bd), bs'.map (·.l) = bs.map (·.l) → CallC A' n c' bs' (fu : Int) 1 (PreD L fu 1) (callS L fu 8) := fun A' c' bs' h => spec_l2Call L hL fu hfu A' n c' bs' (h.trans hbs) (by rw [len_of_map h]; exact hn) 8 1 (by omega) (by omega)
  have HCC := Hd.mk HC
  have HPR := Hd.mk (preD_first (fuel := fu) h1 h2)
  clear hn hnn hbs hL h1 h2 hfu HC
  obtain ⟨q, hq⟩ : ∃ q, wholeS L fn arg fu = q := ⟨_, rfl⟩
  have HQW : Hd (callS L fu 8 noneS (firstS fn arg) = q) := ⟨hq⟩
  rw [hq]
  clear hq
  go_enter Try.func89, Try.ntmps89
  go_wp2_with fail
  refine (spec_l2Own _ _ A n c bs HN.out HNN.out).mono ?_
  rintro e w1 ⟨A', c', bs', rfl, hl, HP⟩
  have HL := Hd.mk hl
  have HS1 := HP.sep
  have HE1 := HP.ext
  clear HP hl
  have HB1 := Hd.mk (Bodies.own (v := .slice A' n c') HL.out ⟨HB.out.n, HB.out.small⟩)
  clear B r
  go_wp2_with fail
  refine (HCC.out A' c' bs' HL.out (OwnP (.slice A' n c') bs' * (pts (w1.heap.size + 1) (.cells #[Value.slice A' n c', .int .i64 (fu : Int), .bool false, .int .i64 0, .int .i64 0, .int .i64 0, .slice (some ⟨w1.heap.size, 0, none⟩) 0 0, .slice none 0 0] 121 (0, 0)) * (pts (w.heap.size + 1 + 1) (.cells #[Value.int .i64 0, .int .i64 0, .int .i64 0, .int .i64 0, .int .i64 0, .int .i64 0, .slice none 0 0, .int .i64 0, .int .i64 0, .bool false, .bool false, .bool false, .int .i64 0, .bool false, .int .i64 0] 123 (0, 0)) * (pts (w.heap.size + 1) (.cells #[Value.slice none 0 0, .int .i64 0, .bool false, .int .i64 0, .int .i64 0, .int .i64 0, .slice none 0 0, .slice none 0 0] 121 (0, 0)) * (pts (w.heap.size) (.cells #[Value.slice A n c] 31 (0, 0)) * (S)))))) _ (.slice (some ⟨w1.heap.size, 0, none⟩) 0 0) (.slice none 0 0) noneS (firstS fn arg) (⟨arg, 0, 0, 0⟩ : R4s) inferInstance (HB1.out _) (SepI.prep (SepI.cast (S := _) inferInstance (by ac_rfl))) rfl rfl rfl HPR.out).mono ?_
  rintro e w4 ⟨vt4, vs4, vd4, r', rfl, hr', HP⟩
  rw [HQW.out] at hr' HP ⊢
  clear HQW HCC HPR
  obtain ⟨⟨sp', sh', mk', dp', t', sn'⟩, ⟨f', dep', rg', dfs', ki', va', lv', df', pg', pa', rc', ou'⟩⟩ := q
  simp only at hr' HP
  subst hr'
  have HS4 := HP.sep
  have HE4 := HP.ext
  clear HP HS1
  obtain ⟨A4, c4, rfl, hc4, hc4'⟩ := Row.form HS4
  obtain ⟨A7, c7, rfl, hc7, hc7'⟩ := Row.form HS4.right
  obtain ⟨A6, c6, rfl, hc6, hc6'⟩ := Row.form HS4.right.right
  clear hc4 hc4' hc7 hc7' hc6 hc6'
  simp only []
  rename_i hK
  refine hK _ _ ?_
  refine ev_val rfl _ rfl ?_
  refine ev_val rfl _ rfl ?_
  refine ev_store rfl 121 _ _ rfl (w.heap.size + 1) #[Value.slice A' n c', .int .i64 (fu : Int), .bool sp', .int .i64 sh', .int .i64 (mk' : Int), .int .i64 dp', .slice A4 t'.length c4, .slice A7 sn'.length c7] rfl rfl info_sm (by rfl) (by simp [Value.oneCell']) ?_
  intro w5 HS5 HE5
  refine ev_store rfl 123 _ _ rfl (w.heap.size + 1 + 1) #[Value.int .i64 f', .int .i64 dep', .int .i64 r'.a, .int .i64 r'.b, .int .i64 r'.c, .int .i64 r'.d, .slice A6 dfs'.length c6, .int .i64 ki', .int .i64 va', .bool lv', .bool df', .bool pg', .int .i64 pa', .bool rc', .int .i64 ou'] rfl rfl info_sf (by rfl) (by simp [Value.oneCell']) ?_
  intro w6 HS6 HE6
  go_wp2
  refine bodyPost_ret (v := .tuple #[mV (.slice A' n c') (.slice A4 t'.length c4) (.slice A7 sn'.length c7) (fu : Int) (⟨sp', sh', mk', dp', t', sn'⟩ : SM), fV (⟨f', dep', r'.l, dfs', ki', va', lv', df', pg', pa', rc', ou'⟩ : SF) r' (.slice A6 dfs'.length c6)]) (by simp [results, Try.results89, go_sem]) rfl ?_
  exact ⟨A', c', _, _, _, r', rfl, rfl, ⟨_, _, _, rfl⟩, ⟨_, _, _, rfl⟩, ⟨_, _, _, rfl⟩, Post.mk' (Ent.sep (S := _) (T := Row 75 3 (.slice A4 t'.length c4) t'.length (cEvs t') * S) inferInstance inferInstance) inferInstance⟩
/-- The outcome as a value. -/
abbrev outV (q : SM × SF) (vt : Value) : Value := .agg #[.int .i64 (toldS q.1 q.2).kind, .int .i64 (toldS q.1 q.2).val, vt, .int .i64 (q.1.made : Int)]
def ToldP (S : HP) (q : SM × SF) (vt : Value) (w : World) (e : Ending) (w' : World) : Prop := e = .returned (outV q vt) ∧ Post w S w'
set_option maxRecDepth 100000 in
set_option maxHeartbeats 4000000 in
theorem spec_l2Told (S : HP) (w : World) [H : SepI w S] (A : Option Addr) (n c0 : Nat) (A1 : Option Addr) (n1 c1 : Nat) (A2 : Option Addr) (n2 c2 : Nat) (A3 : Option Addr) (n3 c3 : Nat) (m : SM) (c : SF) (r : R4s) (hr : c.regs = r.l) (fuel : Int) :
    Calls Try.prog 90 #[mV (.slice A n c0) (.slice A1 n1 c1) (.slice A2 n2 c2) fuel m, fV c r (.slice A3 n3 c3)] w (ToldP S (m, c) (.slice A1 n1 c1) w) := by
  obtain ⟨sp, sh, mk, dp, t, sn⟩ := m
  obtain ⟨f, dep, rg, dfs, ki, va, lv, df, pg, pa, rc, ou⟩ := c
  simp only at hr
  subst hr
  obtain ⟨K, V, HKV⟩ : ∃ K V, Hd (toldS (⟨sp, sh, mk, dp, t, sn⟩ : SM) (⟨f, dep, r.l, dfs, ki, va, lv, df, pg, pa, rc, ou⟩ : SF) = ⟨K, V⟩) := ⟨_, _, ⟨rfl⟩⟩
  have HV : Hd (outV ((⟨sp, sh, mk, dp, t, sn⟩ : SM), (⟨f, dep, r.l, dfs, ki, va, lv, df, pg, pa, rc, ou⟩ : SF)) (.slice A1 n1 c1) = .agg #[.int .i64 K, .int .i64 V, .slice A1 n1 c1, .int .i64 (mk : Int)]) := ⟨by unfold outV; simp only; rw [HKV.out]⟩
  unfold ToldP
  rw [HV.out]
  clear HV
  cases sp
  rotate_left
  · have h : (ToldS.mk 4 0) = ToldS.mk K V := HKV.out
    injection h with h1 h2
    subst h1
    subst h2
    clear HKV
    go_enter Try.func90, Try.ntmps90
    go_wp2
    refine bodyPost_ret (v := .agg #[.int .i64 4, .int .i64 (0), .slice A1 n1 c1, .int .i64 (mk : Int)]) (by simp [results, Try.results90, go_sem]) rfl ?_
    exact ⟨rfl, Post.mk' (Ent.sep (S := _) inferInstance inferInstance) inferInstance⟩
  by_cases k1 : ki = 1
  · subst k1
    have h : (ToldS.mk 1 r.b) = ToldS.mk K V := HKV.out
    injection h with h1 h2
    subst h1
    subst h2
    clear HKV
    go_enter Try.func90, Try.ntmps90
    go_wp2
    refine bodyPost_ret (v := .agg #[.int .i64 1, .int .i64 (r.b), .slice A1 n1 c1, .int .i64 (mk : Int)]) (by simp [results, Try.results90, go_sem]) rfl ?_
    exact ⟨rfl, Post.mk' (Ent.sep (S := _) inferInstance inferInstance) inferInstance⟩
  have k1' : (ki == 1) = false := beq_eq_false_iff_ne.2 k1
  by_cases k2 : ki = 2
  · subst k2
    have h : (ToldS.mk 2 va) = ToldS.mk K V := HKV.out
    injection h with h1 h2
    subst h1
    subst h2
    clear HKV k1
    go_enter Try.func90, Try.ntmps90
    go_wp2
    refine bodyPost_ret (v := .agg #[.int .i64 2, .int .i64 (va), .slice A1 n1 c1, .int .i64 (mk : Int)]) (by simp [results, Try.results90, go_sem]) rfl ?_
    exact ⟨rfl, Post.mk' (Ent.sep (S := _) inferInstance inferInstance) inferInstance⟩
  have k2' : (ki == 2) = false := beq_eq_false_iff_ne.2 k2
  have h : (ToldS.mk ki 0) = ToldS.mk K V := by
    rw [← HKV.out]
    unfold toldS
    simp only [Bool.false_eq_true, if_false]
    rw [if_neg k1, if_neg k2]
  injection h with h1 h2
  subst h1
  subst h2
  clear HKV k1 k2
  go_enter Try.func90, Try.ntmps90
  go_wp2
  refine bodyPost_ret (v := .agg #[.int .i64 ki, .int .i64 (0), .slice A1 n1 c1, .int .i64 (mk : Int)]) (by simp [results, Try.results90, go_sem]) rfl ?_
  exact ⟨rfl, Post.mk' (Ent.sep (S := _) inferInstance inferInstance) inferInstance⟩
/-- What l2Run hands back. -/
def RunP (S : HP) (q : SM × SF) (w : World) (e : Ending) (w' : World) : Prop := ∃ vt, e = .returned (outV q vt) ∧ (∃ A n c, vt = .slice A n c) ∧ Post w (Row 75 3 (vt) q.1.trace.length (cEvs q.1.trace) * S) w'
set_option maxRecDepth 100000 in
set_option maxHeartbeats 4000000 in
theorem spec_l2Run (S : HP) (w : World) [H : SepI w S] (A : Option Addr) (n c : Nat) (bs : List Bd) [r : Rd S A (cBds bs)] [B : Bodies S bs] (hn : bs.length = n) (hnn : NoneNil bs) (L : List (List St)) (hbs : bs.map (·.l) = L) (hL : ProgOk L) (fn arg : Int) (fu : Nat) (h1 : FnOk L fn) (h2 : n16 arg) (hfu : fu ≤ 100000) :
    Calls Try.prog 55 #[.agg #[.slice A n c], .int .i64 fn, .int .i64 arg, .int .i64 (fu : Int)] w (RunP S (wholeS L fn arg fu) w) := by
  have HN := Hd.mk hn
  have HNN := Hd.mk hnn
  have HBS := Hd.mk hbs
  have HL := Hd.mk hL
  have HF1 := Hd.mk h1
  have HF2 := Hd.mk h2
  clear hn hnn hbs hL h1 h2
  obtain ⟨q, hq⟩ : ∃ q, wholeS L fn arg fu = q := ⟨_, rfl⟩
  have HQ := Hd.mk hq
  rw [hq]
  clear hq
  go_enter Try.func55, Try.ntmps55
  go_wp2_with fail
  refine (spec_l2Whole _ _ A n c bs HN.out HNN.out L HBS.out HL.out fn arg fu HF1.out HF2.out hfu).mono ?_
  rintro e w4 ⟨A', c', vt, vs, vd, r', rfl, hr', ⟨A3, n3, c3, rfl⟩, ⟨A4, n4, c4, rfl⟩, ⟨A5, n5, c5, rfl⟩, HP⟩
  rw [HQ.out] at hr' HP ⊢
  have HS4 := HP.sep
  have HE4 := HP.ext
  clear HP B r HQ
  obtain ⟨⟨sp', sh', mk', dp', t', sn'⟩, ⟨f', dep', rg', dfs', ki', va', lv', df', pg', pa', rc', ou'⟩⟩ := q
  simp only at hr' HS4
  subst hr'
  simp only []
  rename_i hK
  refine hK _ _ ?_
  refine ev_val rfl _ rfl ?_
  refine ev_val rfl _ rfl ?_
  refine ev_val rfl _ rfl ?_
  refine ev_run (w1 := w4.alloc (.cells #[Value.slice none 0 0, .int .i64 0, .bool false, .int .i64 0, .int .i64 0, .int .i64 0, .slice none 0 0, .slice none 0 0] 121 (0, 0))) rfl (.pointer (some ⟨w4.heap.size, 0, none⟩)) (by go_simp) ?_
  refine ev_run (w1 := (w4.alloc (.cells #[Value.slice none 0 0, .int .i64 0, .bool false, .int .i64 0, .int .i64 0, .int .i64 0, .slice none 0 0, .slice none 0 0] 121 (0, 0))).alloc (.cells #[Value.int .i64 0, .int .i64 0, .int .i64 0, .int .i64 0, .int .i64 0, .int .i64 0, .slice none 0 0, .int .i64 0, .int .i64 0, .bool false, .bool false, .bool false, .int .i64 0, .bool false, .int .i64 0] 123 (0, 0))) rfl (.pointer (some ⟨w4.heap.size + 1, 0, none⟩)) (by go_simp) ?_
  refine ev_store rfl 121 _ _ rfl w4.heap.size #[Value.slice A' n c', .int .i64 (fu : Int), .bool sp', .int .i64 sh', .int .i64 (mk' : Int), .int .i64 dp', .slice A3 n3 c3, .slice A4 n4 c4] rfl rfl info_sm (by rfl) (by simp [Value.oneCell']) ?_
  intro w5 HS5 HE5
  refine ev_store rfl 123 _ _ rfl (w4.heap.size + 1) #[Value.int .i64 f', .int .i64 dep', .int .i64 r'.a, .int .i64 r'.b, .int .i64 r'.c, .int .i64 r'.d, .slice A5 n5 c5, .int .i64 ki', .int .i64 va', .bool lv', .bool df', .bool pg', .int .i64 pa', .bool rc', .int .i64 ou'] rfl rfl info_sf (by rfl) (by simp [Value.oneCell']) ?_
  intro w6 HS6 HE6
  go_wp2_with fail
  refine (spec_l2Told _ _ A' n c' A3 n3 c3 A4 n4 c4 A5 n5 c5 (⟨sp', sh', mk', dp', t', sn'⟩ : SM) (⟨f', dep', r'.l, dfs', ki', va', lv', df', pg', pa', rc', ou'⟩ : SF) r' rfl (fu : Int)).mono ?_
  rintro e w7 ⟨rfl, HP⟩
  have HS7 := HP.sep
  have HE7 := HP.ext
  clear HP
  go_wp2
  refine bodyPost_ret (v := outV ((⟨sp', sh', mk', dp', t', sn'⟩ : SM), (⟨f', dep', r'.l, dfs', ki', va', lv', df', pg', pa', rc', ou'⟩ : SF)) (.slice A3 n3 c3)) (by simp [results, Try.results55, go_sem]) rfl ?_
  exact ⟨_, rfl, ⟨_, _, _, rfl⟩, Post.mk' (Ent.sep (S := _) (T := Row 75 3 (.slice A3 n3 c3) t'.length (cEvs t') * S) inferInstance inferInstance) inferInstance⟩
end Go.Proofs.Ytobikkdnalnllaa
