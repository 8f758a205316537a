/- Programs compared, and marked. Conditions: lengths within bounds. -/
import Derived.Test.YtnioipbofopocaaDoorPa
import Derived.StillTailTactics
namespace Go.Proofs.YtnioipbofopocaaDoor
open Go.RowKit SL
attribute [local go_sem] cell_blk frozen_blk lt_blk cell_at frozen_row lt_row
set_option linter.unusedVariables false
set_option linter.unusedSimpArgs false

theorem eqStep (S : HP) (w : World) [H : SepI w S] (s t : St) :
    Calls Tryd.prog 124 #[.agg #[.int .i64 s.k, .int .i64 s.a, .int .i64 s.b], .agg #[.int .i64 t.k, .int .i64 t.a, .int .i64 t.b]] w fun e w' => e = .returned (.bool (decide (s = t))) ∧ Post w S w' := by
  obtain ⟨k, a, b⟩ := s
  obtain ⟨k', a', b'⟩ := t
  simp only
  by_cases h1 : k = k'
  · subst h1
    by_cases h2 : a = a'
    · subst h2
      by_cases h3 : b = b'
      · subst h3
        go_enter Tryd.func124, Tryd.ntmps124
        go_wp2
        go_ret
        exact ⟨ret_b (by simp), Post.mk' (Ent.sep (S := _) inferInstance inferInstance) inferInstance⟩
      · have e : decide (St.mk k a b = St.mk k a b') = false := decide_eq_false fun h => h3 (by injection h)
        rw [e]
        clear e
        go_enter Tryd.func124, Tryd.ntmps124
        go_wp2
        go_ret
        exact ⟨rfl, Post.mk' (Ent.sep (S := _) inferInstance inferInstance) inferInstance⟩
    · have e : decide (St.mk k a b = St.mk k a' b') = false := decide_eq_false fun h => h2 (by injection h)
      rw [e]
      clear e
      go_enter Tryd.func124, Tryd.ntmps124
      go_wp2
      go_ret
      exact ⟨rfl, Post.mk' (Ent.sep (S := _) inferInstance inferInstance) inferInstance⟩
  · have e : decide (St.mk k a b = St.mk k' a' b') = false := decide_eq_false fun h => h1 (by injection h)
    rw [e]
    clear e
    go_enter Tryd.func124, Tryd.ntmps124
    go_wp2
    go_ret
    exact ⟨rfl, Post.mk' (Ent.sep (S := _) inferInstance inferInstance) inferInstance⟩

set_option maxRecDepth 100000 in
set_option maxHeartbeats 1000000 in
theorem eqStepS (S : HP) (w : World) [H : SepI w S] (A B : Option Addr) (ca cb : Nat) (xs ys : List St) [ra : Rd S A (cSts xs)] [rb : Rd S B (cSts ys)] (hx : xs.length ≤ 1048576) (hy : ys.length ≤ 1048576) :
    Calls Tryd.prog 93 #[.slice A xs.length ca, .slice B ys.length cb] w fun e w' => e = .returned (.bool (decide (xs = ys))) ∧ Post w S w' := by
  by_cases hl : xs.length = ys.length
  · obtain ⟨n, hn⟩ : ∃ n, n = xs.length := ⟨_, rfl⟩
    have hn' : n = ys.length := hn.trans hl
    rw [← hn', ← hn]
    rw [← hn] at hx
    have HN := Hd.mk hn
    have HN' := Hd.mk hn'
    clear hl hn hn' hy
    go_enter Tryd.func93, Tryd.ntmps93
    go_wp2
    go_loopw [5] (fun i wr => ∃ k : Nat, k ≤ n ∧ i = .int .i64 k ∧ Hd (xs.take k = ys.take k) ∧ SepI wr S ∧ ExtI w wr) (fun i _ => n - (intOf i).toNat)
    case atStart => exact ⟨0, Nat.zero_le _, rfl, ⟨rfl⟩, inferInstance, inferInstance⟩
    case round =>
      obtain ⟨k, hk, rfl, HT, HS, HE⟩ := hrel
      by_cases hlt : k < n
      · obtain ⟨x, hx'⟩ := get_ex (xs := xs) (k := k) (by rw [← HN.out]; exact hlt)
        obtain ⟨y, hy'⟩ := get_ex (xs := ys) (k := k) (by rw [← HN'.out]; exact hlt)
        obtain ⟨b, off, rfl⟩ := ra.addr H (j := k) (by rw [cSts_len, ← HN.out]; omega)
        obtain ⟨b', off', rfl⟩ := rb.addr H (j := k) (by rw [cSts_len, ← HN'.out]; omega)
        have c1 := ra.cell (cSts_get hx').1
        have c2 := ra.cell (cSts_get hx').2.1
        have c3 := ra.cell (cSts_get hx').2.2
        have c4 := rb.cell (cSts_get hy').1
        have c5 := rb.cell (cSts_get hy').2.1
        have c6 := rb.cell (cSts_get hy').2.2
        have HX := Hd.mk hx'
        have HY := Hd.mk hy'
        clear hx' hy'
        by_cases hxy : x = y
        · have HXY := Hd.mk hxy
          clear hxy
          go_wp2
          go_still_tail 8, (by kernel_rfl)
          change wpList _ _ _ _ _ wr.drew
          go_wp2_with (go_at_call 124; refine (eqStep _ _ x y).mono ?_; rintro e w' ⟨rfl, HP'⟩; rw [decide_eq_true HXY.out]; have HS2 := HP'.sep; have HE2 := HP'.ext; clear HP')
          go_roundw
          case rel => exact ⟨k + 1, by omega, by go_num, ⟨by rw [take_succ_eq HX.out, take_succ_eq HY.out, HT.out, HXY.out]⟩, inferInstance, inferInstance⟩
          case measure => simp [intOf]; omega
        · have HXY := Hd.mk hxy
          clear hxy
          go_wp2
          go_still_tail 8, (by kernel_rfl)
          change wpList _ _ _ _ _ wr.drew
          go_wp2_with (go_at_call 124; refine (eqStep _ _ x y).mono ?_; rintro e w' ⟨rfl, HP'⟩; rw [decide_eq_false HXY.out]; have HS2 := HP'.sep; have HE2 := HP'.ext; clear HP')
          go_ret
          exact ⟨ret_b (decide_eq_false (ne_of_get HX.out HY.out HXY.out)).symm, Post.mk' inferInstance inferInstance⟩
      · have : k = n := by omega
        subst this
        go_wp2
        go_ret
        exact ⟨ret_b (decide_eq_true (by have := HT.out; rwa [HN.out, List.take_length, ← HN.out, HN'.out, List.take_length] at this)).symm, Post.mk' inferInstance inferInstance⟩
  · go_enter Tryd.func93, Tryd.ntmps93
    go_wp2
    go_ret
    exact ⟨ret_b (decide_eq_false (fun h => hl (by rw [h]))).symm, Post.mk' inferInstance inferInstance⟩

theorem map_take_ne {bs ds : List Bd} {k : Nat} {x y : Bd} (h : bs[k]? = some x) (h' : ds[k]? = some y) (hn : x.l ≠ y.l) : bs.map (·.l) ≠ ds.map (·.l) :=
  ne_of_get (k := k) (x := x.l) (y := y.l) (by simp [h]) (by simp [h']) hn

set_option maxRecDepth 100000 in
set_option maxHeartbeats 1000000 in
theorem eqStepSS (S : HP) (w : World) [H : SepI w S] (A B : Option Addr) (ca cb : Nat) (xs ys : List Bd) [ra : Rd S A (cBds xs)] [rb : Rd S B (cBds ys)] [Bx : Bodies S xs] [By : Bodies S ys] :
    Calls Tryd.prog 64 #[.slice A xs.length ca, .slice B ys.length cb] w fun e w' => e = .returned (.bool (decide (xs.map (·.l) = ys.map (·.l)))) ∧ Post w S w' := by
  have hx := Bx.n
  have hy := By.n
  have BX := Hd.mk Bx
  have BY := Hd.mk By
  clear Bx By
  by_cases hl : xs.length = ys.length
  · obtain ⟨n, hn⟩ : ∃ n, n = xs.length := ⟨_, rfl⟩
    have hn' : n = ys.length := hn.trans hl
    rw [← hn', ← hn]
    rw [← hn] at hx
    have HN := Hd.mk hn
    have HN' := Hd.mk hn'
    clear hl hn hn' hy
    go_enter Tryd.func64, Tryd.ntmps64
    go_wp2
    go_loopw [5] (fun i wr => ∃ k : Nat, k ≤ n ∧ i = .int .i64 k ∧ Hd ((xs.take k).map (·.l) = (ys.take k).map (·.l)) ∧ SepI wr S ∧ ExtI w wr) (fun i _ => n - (intOf i).toNat)
    case atStart => exact ⟨0, Nat.zero_le _, rfl, ⟨rfl⟩, inferInstance, inferInstance⟩
    case round =>
      obtain ⟨k, hk, rfl, HT, HS, HE⟩ := hrel
      by_cases hlt : k < n
      · obtain ⟨x, hx'⟩ := get_ex (xs := xs) (k := k) (by rw [← HN.out]; exact hlt)
        obtain ⟨y, hy'⟩ := get_ex (xs := ys) (k := k) (by rw [← HN'.out]; exact hlt)
        obtain ⟨b, off, rfl⟩ := ra.addr H (j := k) (by rw [cBds_len, ← HN.out]; omega)
        obtain ⟨b', off', rfl⟩ := rb.addr H (j := k) (by rw [cBds_len, ← HN'.out]; omega)
        have c1 := ra.cell (cBds_get hx')
        have c2 := rb.cell (cBds_get hy')
        have rx := BX.out.rd x (List.mem_of_getElem? hx')
        have sx := BX.out.small x (List.mem_of_getElem? hx')
        have ry := BY.out.rd y (List.mem_of_getElem? hy')
        have sy := BY.out.small y (List.mem_of_getElem? hy')
        have HX := Hd.mk hx'
        have HY := Hd.mk hy'
        clear hx' hy'
        by_cases hxy : x.l = y.l
        · have HXY := Hd.mk hxy
          clear hxy
          go_wp2
          go_still_tail 8, (by kernel_rfl)
          change wpList _ _ _ _ _ wr.drew
          go_wp2_with (go_at_call 93; refine (eqStepS _ _ _ _ _ _ x.l y.l sx sy).mono ?_; rintro e w' ⟨rfl, HP'⟩; rw [decide_eq_true HXY.out]; have HS2 := HP'.sep; have HE2 := HP'.ext; clear HP')
          go_roundw
          case rel => exact ⟨k + 1, by omega, by go_num, ⟨by rw [take_succ_eq HX.out, take_succ_eq HY.out, List.map_append, List.map_append, HT.out, List.map_cons, List.map_cons, HXY.out]⟩, inferInstance, inferInstance⟩
          case measure => simp [intOf]; omega
        · have HXY := Hd.mk hxy
          clear hxy
          go_wp2
          go_still_tail 8, (by kernel_rfl)
          change wpList _ _ _ _ _ wr.drew
          go_wp2_with (go_at_call 93; refine (eqStepS _ _ _ _ _ _ x.l y.l sx sy).mono ?_; rintro e w' ⟨rfl, HP'⟩; rw [decide_eq_false HXY.out]; have HS2 := HP'.sep; have HE2 := HP'.ext; clear HP')
          go_ret
          exact ⟨ret_b (decide_eq_false (map_take_ne HX.out HY.out HXY.out)).symm, Post.mk' inferInstance inferInstance⟩
      · have : k = n := by omega
        subst this
        go_wp2
        go_ret
        exact ⟨ret_b (decide_eq_true (by have := HT.out; rwa [HN.out, List.take_length, ← HN.out, HN'.out, List.take_length] at this)).symm, Post.mk' inferInstance inferInstance⟩
  · go_enter Tryd.func64, Tryd.ntmps64
    go_wp2
    go_ret
    exact ⟨ret_b (decide_eq_false (fun h => hl (by simpa using congrArg List.length h))).symm, Post.mk' inferInstance inferInstance⟩


theorem eqProgram (S : HP) (w : World) [H : SepI w S] (A B : Option Addr) (ca cb : Nat) (xs ys : List Bd) [ra : Rd S A (cBds xs)] [rb : Rd S B (cBds ys)] [Bx : Bodies S xs] [By : Bodies S ys] :
    Calls Tryd.prog 31 #[.agg #[.slice A xs.length ca], .agg #[.slice B ys.length cb]] w fun e w' => e = .returned (.bool (decide (xs.map (·.l) = ys.map (·.l)))) ∧ Post w S w' := by
  cases hd : decide (xs.map (·.l) = ys.map (·.l))
  all_goals
    have HD := Hd.mk hd
    clear hd
    go_enter Tryd.func31, Tryd.ntmps31
    go_wp2_with (go_at_call 64; refine (eqStepSS _ _ _ _ _ _ xs ys).mono ?_; rintro e w' ⟨rfl, HP'⟩; rw [HD.out]; have HS2 := HP'.sep; have HE2 := HP'.ext; clear HP')
    go_ret
    exact ⟨rfl, Post.mk' (Ent.sep (S := _) inferInstance inferInstance) inferInstance⟩

/-- The marks of steps. -/
def mkSts (k : Int) : Nat → List St
  | 0 => []
  | n + 1 => mkSts k n ++ [⟨k + 3 * n, k + 3 * n + 1, k + 3 * n + 1 + 1⟩]
theorem mkSts_len (k : Int) (n : Nat) : (mkSts k n).length = n := by
  induction n with
  | zero => rfl
  | succ n ih => simp [mkSts, ih]
theorem cSts_upd (d r : List St) (y x : St) (k : Nat) (h : d.length = k) :
    (((cSts (d ++ y :: r)).set (k * 3) (.int .i64 x.k)).set (k * 3 + 1) (.int .i64 x.a)).set (k * 3 + 2) (.int .i64 x.b) = cSts ((d ++ [x]) ++ r) := by
  have hl : (cSts d).length = k * 3 := by rw [cSts_len, h]
  rw [cSts_append, cSts_append, cSts_append]
  rw [List.set_append_right _ _ (by omega), List.set_append_right _ _ (by omega), List.set_append_right _ _ (by omega), hl, Nat.sub_self, Nat.add_sub_cancel_left, Nat.add_sub_cancel_left, List.append_assoc]
  rfl

set_option maxRecDepth 100000 in
set_option maxHeartbeats 1000000 in
theorem markStepS (F : HP) (w : World) (A : Option Addr) (c : Nat) (l : List St) [H : SepI w (Row 78 3 (.slice A l.length c) l.length (cSts l) * F)] (q : Int) (hl : l.length ≤ 1048576) (h0 : 0 ≤ q) (h1 : q ≤ 4611686018427387904) :
    Calls Tryd.prog 94 #[.slice A l.length c, .int .i64 q] w fun e w' => e = .returned (.int .i64 (q + 3 * l.length)) ∧
      Post w (Row 78 3 (.slice A l.length c) l.length (cSts (mkSts q l.length)) * F) w' := by
  obtain ⟨n, hn'⟩ : ∃ n, n = l.length := ⟨_, rfl⟩
  have HN := Hd.mk hn'
  rw [← hn'] at hl ⊢
  rw [← hn'] at H
  clear hn'
  go_enter Tryd.func94, Tryd.ntmps94
  go_wp2
  go_loopw [1, 5] (fun v i wr => ∃ k : Nat, k ≤ n ∧ i = .int .i64 k ∧ v = .int .i64 (q + 3 * k) ∧ ExtI w wr ∧
    SepI wr (Row 78 3 (.slice A n c) n (cSts (mkSts q k ++ l.drop k)) * F)) (fun _ i _ => n - (intOf i).toNat)
  case atStart => exact ⟨0, Nat.zero_le _, rfl, by simp, inferInstance, by simpa [mkSts] using H⟩
  case round =>
    obtain ⟨k, hk, rfl, rfl, HX, HS⟩ := hrel
    by_cases hlt : k < n
    · obtain ⟨x, hx⟩ := get_ex (xs := l) (k := k) (by rw [← HN.out]; exact hlt)
      obtain ⟨g, rfl⟩ := Row.addr HS (by omega)
      have hz : (mkSts q k ++ l.drop k)[k]? = some x := by
        rw [List.getElem?_append_right (by rw [mkSts_len]; exact Nat.le_refl _), mkSts_len, Nat.sub_self, List.getElem?_drop]; exact hx
      have d1 : CellAt _ g _ _ := Row.cellAt (e := 78) (size := 3) (g := g) (n := n) (c := c) (F := F) (cSts_get hz).1
      have d2 : CellAt _ g _ _ := Row.cellAt (e := 78) (size := 3) (g := g) (n := n) (c := c) (F := F) (cSts_get hz).2.1
      have d3 : CellAt _ g _ _ := Row.cellAt (e := 78) (size := 3) (g := g) (n := n) (c := c) (F := F) (cSts_get hz).2.2
      have hd : l.drop k = x :: l.drop (k + 1) := by
        have h1 := (List.getElem?_eq_some_iff.1 hx)
        obtain ⟨hlt', e⟩ := h1
        rw [List.drop_eq_getElem_cons hlt', e]
      have HG := Hd.mk hd
      clear hx hz hd
      go_wp2
      go_roundw
      case rel => exact ⟨k + 1, by omega, by go_num, by go_num, inferInstance, SepI.cast inferInstance (by
        rw [HG.out, show cSts (mkSts q (k + 1) ++ l.drop (k + 1)) = _ from (cSts_upd (mkSts q k) (l.drop (k + 1)) x ⟨q + 3 * k, q + 3 * k + 1, q + 3 * k + 1 + 1⟩ k (mkSts_len _ _)).symm])⟩
      case measure => simp [intOf]; omega
    · have : k = n := by omega
      subst this
      go_wp2
      go_ret
      exact ⟨rfl, Post.mk' (by rw [HN.out, List.drop_length, List.append_nil, ← HN.out] at HS; exact HS) HX⟩

theorem cBds_same {l m : List Bd} (h : l.map cBd = m.map cBd) : cBds l = cBds m := h
theorem stars_upd (d r : List Bd) (x y : Bd) : stars ((d ++ x :: r).map OwnB) = OwnB x * stars ((d ++ r).map OwnB) := by
  rw [List.map_append, List.map_cons, stars_mid, List.map_append]

set_option maxRecDepth 100000 in
set_option maxHeartbeats 1000000 in
theorem markStepSS (F : HP) (w : World) (A : Option Addr) (c : Nat) (bs : List Bd) [H : SepI w (OwnP (.slice A bs.length c) bs * F)] (hs : ∀ x ∈ bs, x.l.length ≤ 1048576) (hl : bs.length ≤ 1048576) :
    Calls Tryd.prog 65 #[.slice A bs.length c, .int .i64 1] w fun e w' => ∃ r : Int, e = .returned (.int .i64 r) ∧ 0 ≤ r ∧ Post w F w' := by
  obtain ⟨n, hn'⟩ : ∃ n, n = bs.length := ⟨_, rfl⟩
  have HN := Hd.mk hn'
  have HS0 := Hd.mk hs
  have H1 : SepI w (Row 76 1 (.slice A bs.length c) bs.length (cBds bs) * (stars (bs.map OwnB) * F)) := by rw [← star_assoc]; exact H
  clear H
  rw [← hn'] at hl H1 ⊢
  clear hn' hs
  go_enter Tryd.func65, Tryd.ntmps65
  go_wp2
  go_loopw [1, 5] (fun v i wr => ∃ (k : Nat) (q : Int) (d : List Bd), k ≤ n ∧ i = .int .i64 k ∧ v = .int .i64 q ∧ 0 ≤ q ∧ q ≤ 1 + 3145728 * k ∧ ExtI w wr ∧ Hd (d.length = k) ∧
    SepI wr (Row 76 1 (.slice A n c) n (cBds bs) * (stars ((d ++ bs.drop k).map OwnB) * F))) (fun _ i _ => n - (intOf i).toNat)
  case atStart => exact ⟨0, 1, [], Nat.zero_le _, rfl, rfl, by omega, by omega, inferInstance, ⟨rfl⟩, by simpa using H1⟩
  case round =>
    obtain ⟨k, q, d, hk, rfl, rfl, hq0, hq1, HX, HD, HS⟩ := hrel
    by_cases hlt : k < n
    · obtain ⟨x, hx⟩ := get_ex (xs := bs) (k := k) (by rw [← HN.out]; exact hlt)
      obtain ⟨g, rfl⟩ := Row.addr HS (by omega)
      have d1 : CellAt _ g _ _ := Row.cellAt (e := 76) (size := 1) (g := g) (n := n) (c := c) (F := stars ((d ++ bs.drop k).map OwnB) * F) (cBds_get hx)
      have sx := HS0.out x (List.mem_of_getElem? hx)
      have hd : bs.drop k = x :: bs.drop (k + 1) := by
        obtain ⟨hlt', e⟩ := List.getElem?_eq_some_iff.1 hx
        rw [List.drop_eq_getElem_cons hlt', e]
      have HG := Hd.mk hd
      clear hx
      go_wp2_with fail
      have HS4 : SepI wr (Row 78 3 (.slice x.p x.l.length x.c) x.l.length (cSts x.l) * (Row 76 1 (.slice (some ⟨g, 0, none⟩) n c) n (cBds bs) * (stars ((d ++ bs.drop (k + 1)).map OwnB) * F))) := by
        refine SepI.cast HS ?_
        rw [HG.out, stars_upd d (bs.drop (k + 1)) x x, star_assoc]
        exact star_left _ _ _
      refine (@markStepS _ _ _ _ x.l HS4 q sx hq0 (by omega)).mono ?_
      rintro e w' ⟨rfl, HP'⟩
      have HS2 := HP'.sep
      have HE2 := HP'.ext
      clear HP' HS4
      go_wp2
      go_roundw
      case rel => exact ⟨k + 1, q + 3 * x.l.length, d ++ [⟨x.p, x.c, mkSts q x.l.length⟩], by omega, by go_num, rfl, by omega, by omega, inferInstance, ⟨by simp [HD.out]⟩, SepI.cast HS2 (by
        rw [List.append_assoc, List.cons_append, List.nil_append, stars_upd d (bs.drop (k + 1)) ⟨x.p, x.c, mkSts q x.l.length⟩ x]
        unfold OwnB
        simp only [mkSts_len]
        ac_rfl)⟩
      case measure => simp [intOf]; omega
    · have : k = n := by omega
      subst this
      go_wp2
      go_ret
      exact ⟨q, rfl, hq0, Post.mk' HS.right.right HX⟩

theorem markProgram (S F : HP) (w : World) (A : Option Addr) (c : Nat) (bs : List Bd) [H : SepI w S] [p : Pick S (OwnP (.slice A bs.length c) bs) F] (hs : ∀ x ∈ bs, x.l.length ≤ 1048576) (hl : bs.length ≤ 1048576) :
    Calls Tryd.prog 32 #[.agg #[.slice A bs.length c], .int .i64 1] w fun e w' => ∃ r : Int, e = .returned (.int .i64 r) ∧ 0 ≤ r ∧ Post w F w' := by
  go_enter Tryd.func32, Tryd.ntmps32
  go_wp2_with (go_at_call 65; refine (@markStepSS _ _ _ _ bs (SepI.pick (S := _) inferInstance inferInstance) hs hl).mono ?_; rintro e w' ⟨r, rfl, hr, HP'⟩; have HS2 := HP'.sep; have HE2 := HP'.ext; clear HP')
  go_ret
  exact ⟨r, rfl, hr, Post.mk' (Ent.sep (S := _) inferInstance inferInstance) inferInstance⟩
end Go.Proofs.YtnioipbofopocaaDoor
