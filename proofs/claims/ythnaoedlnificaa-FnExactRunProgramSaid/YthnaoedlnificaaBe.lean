/- Events compared, marked, held; outcomes. Conditions: lengths within bounds. -/
import Derived.Test.YthnaoedlnificaaQc
import Derived.Test.YthnaoedlnificaaQa
import Derived.StillTailTactics
namespace Go.Proofs.Ythnaoedlnificaa
open Go.RowKit SL
attribute [local go_sem] cell_blk frozen_blk lt_blk cell_at frozen_row lt_row
set_option linter.unusedVariables false
set_option linter.unusedSimpArgs false

instance : DecidableEq Ev := fun a b => by
  obtain ⟨a1, a2, a3⟩ := a
  obtain ⟨b1, b2, b3⟩ := b
  exact if h : a1 = b1 ∧ a2 = b2 ∧ a3 = b3 then .isTrue (by obtain ⟨rfl, rfl, rfl⟩ := h; rfl) else .isFalse fun e => h (by injection e with e1 e2 e3; exact ⟨e1, e2, e3⟩)
theorem cEvs_append (l m : List Ev) : cEvs (l ++ m) = cEvs l ++ cEvs m := by simp [cEvs]
set_option maxRecDepth 100000 in
theorem eqEvent (S : HP) (w : World) [H : SepI w S] (s t : Ev) :
    Calls Try.prog 91 #[.agg #[.int .i64 s.k, .int .i64 s.f, .int .i64 s.v], .agg #[.int .i64 t.k, .int .i64 t.f, .int .i64 t.v]] w fun e w' => e = .returned (.bool (decide (s = t))) ∧ Post w S w' := by
  obtain ⟨k, a, b⟩ := s
  obtain ⟨k', a', b'⟩ := t
  simp only
  by_cases h1 : k = k'
  · subst h1
    by_cases h2 : a = a'
    · subst h2
      by_cases h3 : b = b'
      · subst h3
        go_enter Try.func91, Try.ntmps91
        go_wp2
        go_ret
        exact ⟨ret_b (by simp), Post.mk' (Ent.sep (S := _) inferInstance inferInstance) inferInstance⟩
      · have e : decide (Ev.mk k a b = Ev.mk k a b') = false := decide_eq_false fun h => h3 (by injection h)
        rw [e]
        clear e
        go_enter Try.func91, Try.ntmps91
        go_wp2
        go_ret
        exact ⟨rfl, Post.mk' (Ent.sep (S := _) inferInstance inferInstance) inferInstance⟩
    · have e : decide (Ev.mk k a b = Ev.mk k a' b') = false := decide_eq_false fun h => h2 (by injection h)
      rw [e]
      clear e
      go_enter Try.func91, Try.ntmps91
      go_wp2
      go_ret
      exact ⟨rfl, Post.mk' (Ent.sep (S := _) inferInstance inferInstance) inferInstance⟩
  · have e : decide (Ev.mk k a b = Ev.mk k' a' b') = false := decide_eq_false fun h => h1 (by injection h)
    rw [e]
    clear e
    go_enter Try.func91, Try.ntmps91
    go_wp2
    go_ret
    exact ⟨rfl, Post.mk' (Ent.sep (S := _) inferInstance inferInstance) inferInstance⟩

set_option maxRecDepth 100000 in
set_option maxHeartbeats 1000000 in
theorem eqEventS (S : HP) (w : World) [H : SepI w S] (A B : Option Addr) (ca cb : Nat) (xs ys : List Ev) [ra : Rd S A (cEvs xs)] [rb : Rd S B (cEvs ys)] (hx : xs.length ≤ 1048576) (hy : ys.length ≤ 1048576) :
    Calls Try.prog 61 #[.slice A xs.length ca, .slice B ys.length cb] w fun e w' => e = .returned (.bool (decide (xs = ys))) ∧ Post w S w' := by
  by_cases hl : xs.length = ys.length
  · obtain ⟨n, hn⟩ : ∃ n, n = xs.length := ⟨_, rfl⟩
    have hn' : n = ys.length := hn.trans hl
    rw [← hn', ← hn]
    rw [← hn] at hx
    have HN := Hd.mk hn
    have HN' := Hd.mk hn'
    clear hl hn hn' hy
    go_enter Try.func61, Try.ntmps61
    go_wp2
    go_loopw [5] (fun i wr => ∃ k : Nat, k ≤ n ∧ i = .int .i64 k ∧ Hd (xs.take k = ys.take k) ∧ SepI wr S ∧ ExtI w wr) (fun i _ => n - (intOf i).toNat)
    case atStart => exact ⟨0, Nat.zero_le _, rfl, ⟨rfl⟩, inferInstance, inferInstance⟩
    case round =>
      obtain ⟨k, hk, rfl, HT, HS, HE⟩ := hrel
      by_cases hlt : k < n
      · obtain ⟨x, hx'⟩ := get_ex (xs := xs) (k := k) (by rw [← HN.out]; exact hlt)
        obtain ⟨y, hy'⟩ := get_ex (xs := ys) (k := k) (by rw [← HN'.out]; exact hlt)
        obtain ⟨b, off, rfl⟩ := ra.addr H (j := k) (by rw [cEvs_len, ← HN.out]; omega)
        obtain ⟨b', off', rfl⟩ := rb.addr H (j := k) (by rw [cEvs_len, ← HN'.out]; omega)
        have c1 := ra.cell (cEvs_get hx').1
        have c2 := ra.cell (cEvs_get hx').2.1
        have c3 := ra.cell (cEvs_get hx').2.2
        have c4 := rb.cell (cEvs_get hy').1
        have c5 := rb.cell (cEvs_get hy').2.1
        have c6 := rb.cell (cEvs_get hy').2.2
        have HX := Hd.mk hx'
        have HY := Hd.mk hy'
        clear hx' hy'
        by_cases hxy : x = y
        · have HXY := Hd.mk hxy
          clear hxy
          go_wp2
          go_still_tail 8, (by kernel_rfl)
          change wpList _ _ _ _ _ wr.drew
          go_wp2_with (go_at_call 91; refine (eqEvent _ _ x y).mono ?_; rintro e w' ⟨rfl, HP'⟩; rw [decide_eq_true HXY.out]; have HS2 := HP'.sep; have HE2 := HP'.ext; clear HP')
          go_roundw
          case rel => exact ⟨k + 1, by omega, by go_num, ⟨by rw [take_succ_eq HX.out, take_succ_eq HY.out, HT.out, HXY.out]⟩, inferInstance, inferInstance⟩
          case measure => simp [intOf]; omega
        · have HXY := Hd.mk hxy
          clear hxy
          go_wp2
          go_still_tail 8, (by kernel_rfl)
          change wpList _ _ _ _ _ wr.drew
          go_wp2_with (go_at_call 91; refine (eqEvent _ _ x y).mono ?_; rintro e w' ⟨rfl, HP'⟩; rw [decide_eq_false HXY.out]; have HS2 := HP'.sep; have HE2 := HP'.ext; clear HP')
          go_ret
          exact ⟨ret_b (decide_eq_false (ne_of_get HX.out HY.out HXY.out)).symm, Post.mk' inferInstance inferInstance⟩
      · have : k = n := by omega
        subst this
        go_wp2
        go_ret
        exact ⟨ret_b (decide_eq_true (by have := HT.out; rwa [HN.out, List.take_length, ← HN.out, HN'.out, List.take_length] at this)).symm, Post.mk' inferInstance inferInstance⟩
  · go_enter Try.func61, Try.ntmps61
    go_wp2
    go_ret
    exact ⟨ret_b (decide_eq_false (fun h => hl (by rw [h]))).symm, Post.mk' inferInstance inferInstance⟩

/-- The marks of steps. -/
def mkEvs (k : Int) : Nat → List Ev
  | 0 => []
  | n + 1 => mkEvs k n ++ [⟨k + 3 * n, k + 3 * n + 1, k + 3 * n + 1 + 1⟩]
theorem mkEvs_len (k : Int) (n : Nat) : (mkEvs k n).length = n := by
  induction n with
  | zero => rfl
  | succ n ih => simp [mkEvs, ih]
theorem cEvs_upd (d r : List Ev) (y x : Ev) (k : Nat) (h : d.length = k) :
    (((cEvs (d ++ y :: r)).set (k * 3) (.int .i64 x.k)).set (k * 3 + 1) (.int .i64 x.f)).set (k * 3 + 2) (.int .i64 x.v) = cEvs ((d ++ [x]) ++ r) := by
  have hl : (cEvs d).length = k * 3 := by rw [cEvs_len, h]
  rw [cEvs_append, cEvs_append, cEvs_append]
  rw [List.set_append_right _ _ (by omega), List.set_append_right _ _ (by omega), List.set_append_right _ _ (by omega), hl, Nat.sub_self, Nat.add_sub_cancel_left, Nat.add_sub_cancel_left, List.append_assoc]
  rfl

set_option maxRecDepth 100000 in
set_option maxHeartbeats 1000000 in
theorem markEventS (F : HP) (w : World) (A : Option Addr) (c : Nat) (l : List Ev) [H : SepI w (Row 94 3 (.slice A l.length c) l.length (cEvs l) * F)] (q : Int) (hl : l.length ≤ 1048576) (h0 : 0 ≤ q) (h1 : q ≤ 4611686018427387904) :
    Calls Try.prog 64 #[.slice A l.length c, .int .i64 q] w fun e w' => e = .returned (.int .i64 (q + 3 * l.length)) ∧
      Post w (Row 94 3 (.slice A l.length c) l.length (cEvs (mkEvs q l.length)) * F) w' := by
  obtain ⟨n, hn'⟩ : ∃ n, n = l.length := ⟨_, rfl⟩
  have HN := Hd.mk hn'
  rw [← hn'] at hl ⊢
  rw [← hn'] at H
  clear hn'
  go_enter Try.func64, Try.ntmps64
  go_wp2
  go_loopw [1, 5] (fun v i wr => ∃ k : Nat, k ≤ n ∧ i = .int .i64 k ∧ v = .int .i64 (q + 3 * k) ∧ ExtI w wr ∧
    SepI wr (Row 94 3 (.slice A n c) n (cEvs (mkEvs q k ++ l.drop k)) * F)) (fun _ i _ => n - (intOf i).toNat)
  case atStart => exact ⟨0, Nat.zero_le _, rfl, by simp, inferInstance, by simpa [mkEvs] using H⟩
  case round =>
    obtain ⟨k, hk, rfl, rfl, HX, HS⟩ := hrel
    by_cases hlt : k < n
    · obtain ⟨x, hx⟩ := get_ex (xs := l) (k := k) (by rw [← HN.out]; exact hlt)
      obtain ⟨g, rfl⟩ := Row.addr HS (by omega)
      have hz : (mkEvs q k ++ l.drop k)[k]? = some x := by
        rw [List.getElem?_append_right (by rw [mkEvs_len]; exact Nat.le_refl _), mkEvs_len, Nat.sub_self, List.getElem?_drop]; exact hx
      have d1 : CellAt _ g _ _ := Row.cellAt (e := 94) (size := 3) (g := g) (n := n) (c := c) (F := F) (cEvs_get hz).1
      have d2 : CellAt _ g _ _ := Row.cellAt (e := 94) (size := 3) (g := g) (n := n) (c := c) (F := F) (cEvs_get hz).2.1
      have d3 : CellAt _ g _ _ := Row.cellAt (e := 94) (size := 3) (g := g) (n := n) (c := c) (F := F) (cEvs_get hz).2.2
      have hd : l.drop k = x :: l.drop (k + 1) := by
        have h1 := (List.getElem?_eq_some_iff.1 hx)
        obtain ⟨hlt', e⟩ := h1
        rw [List.drop_eq_getElem_cons hlt', e]
      have HG := Hd.mk hd
      clear hx hz hd
      go_wp2
      go_roundw
      case rel => exact ⟨k + 1, by omega, by go_num, by go_num, inferInstance, SepI.cast inferInstance (by
        rw [HG.out, show cEvs (mkEvs q (k + 1) ++ l.drop (k + 1)) = _ from (cEvs_upd (mkEvs q k) (l.drop (k + 1)) x ⟨q + 3 * k, q + 3 * k + 1, q + 3 * k + 1 + 1⟩ k (mkEvs_len _ _)).symm])⟩
      case measure => simp [intOf]; omega
    · have : k = n := by omega
      subst this
      go_wp2
      go_ret
      exact ⟨rfl, Post.mk' (by rw [HN.out, List.drop_length, List.append_nil, ← HN.out] at HS; exact HS) HX⟩

theorem mkEvs_get (q : Int) : ∀ {n k : Nat}, k < n → (mkEvs q n)[k]? = some ⟨q + 3 * k, q + 3 * k + 1, q + 3 * k + 1 + 1⟩
  | 0, k, h => by omega
  | n + 1, k, h => by
    by_cases hk : k < n
    · rw [mkEvs, List.getElem?_append_left (by rw [mkEvs_len]; exact hk)]; exact mkEvs_get q hk
    · have : k = n := by omega
      subst this
      rw [mkEvs, List.getElem?_append_right (by rw [mkEvs_len]; exact Nat.le_refl _), mkEvs_len, Nat.sub_self]
      rfl

set_option maxRecDepth 100000 in
set_option maxHeartbeats 1000000 in
theorem heldEventS (S : HP) (w : World) [H : SepI w S] (A : Option Addr) (c n : Nat) (q : Int) [r : Rd S A (cEvs (mkEvs q n))] (hn : n ≤ 1048576) (h0 : 0 ≤ q) (h1 : q ≤ 4611686018427387904) :
    Calls Try.prog 65 #[.slice A n c, .int .i64 q] w fun e w' => e = .returned (.int .i64 (q + 3 * n)) ∧ w' = w := by
  go_enter Try.func65, Try.ntmps65
  go_wp2
  go_loop [1, 5] (fun v i => ∃ k : Nat, k ≤ n ∧ i = .int .i64 k ∧ v = .int .i64 (q + 3 * k)) (fun _ i => n - (intOf i).toNat)
  case atStart => exact ⟨0, Nat.zero_le _, rfl, by simp⟩
  case round =>
    obtain ⟨k, hk, rfl, rfl⟩ := hrel
    by_cases hlt : k < n
    · obtain ⟨b, off, rfl⟩ := r.addr H (j := k) (by rw [cEvs_len, mkEvs_len]; omega)
      have c1 := r.cell (cEvs_get (mkEvs_get q hlt)).1
      have c2 := r.cell (cEvs_get (mkEvs_get q hlt)).2.1
      have c3 := r.cell (cEvs_get (mkEvs_get q hlt)).2.2
      simp only at c1 c2 c3
      go_wp2
      go_round
      case rel => exact ⟨k + 1, by omega, by go_num, by go_num⟩
      case measure => simp [intOf]; omega
    · have : k = n := by omega
      subst this
      go_wp2
      go_ret
      exact ⟨rfl, rfl⟩


abbrev outQ (k v : Int) (vt : Value) (mk : Int) : Value := .agg #[.int .i64 k, .int .i64 v, vt, .int .i64 mk]
set_option maxRecDepth 100000 in
set_option maxHeartbeats 1000000 in
theorem eqOutcome (S : HP) (w : World) [H : SepI w S] (A B : Option Addr) (ca cb : Nat) (t : List Ev) (k v mk : Int) [ra : Rd S A (cEvs t)] [rb : Rd S B (cEvs t)] (ht : t.length ≤ 1048576) :
    Calls Try.prog 19 #[outQ k v (.slice A t.length ca) mk, outQ k v (.slice B t.length cb) mk] w fun e w' => e = .returned (.bool true) ∧ Post w S w' := by
  go_enter Try.func19, Try.ntmps19
  go_wp2_with (go_at_call 61; refine (eqEventS _ _ _ _ _ _ t t ht ht).mono ?_; rintro e w' ⟨rfl, HP'⟩; rw [decide_eq_true rfl]; have HS2 := HP'.sep; have HE2 := HP'.ext; clear HP')
  go_ret
  exact ⟨rfl, Post.mk' (Ent.sep (S := _) inferInstance inferInstance) inferInstance⟩
set_option maxRecDepth 100000 in
set_option maxHeartbeats 1000000 in
theorem markOutcome (F : HP) (w : World) (A : Option Addr) (c : Nat) (t : List Ev) [H : SepI w (Row 94 3 (.slice A t.length c) t.length (cEvs t) * F)] (k v mk : Int) (ht : t.length ≤ 1048576) :
    Calls Try.prog 22 #[outQ k v (.slice A t.length c) mk, .int .i64 1] w fun e w' => e = .returned (.int .i64 (1 + 3 * t.length)) ∧
      Post w (Row 94 3 (.slice A t.length c) t.length (cEvs (mkEvs 1 t.length)) * F) w' := by
  go_enter Try.func22, Try.ntmps22
  go_wp2_with fail
  refine (@markEventS _ _ _ _ t (SepI.pick (S := _) inferInstance inferInstance) 1 ht (by omega) (by omega)).mono ?_
  rintro e w1 ⟨rfl, HP⟩
  have HS1 := HP.sep
  have HE1 := HP.ext
  clear HP
  go_wp2
  go_ret
  exact ⟨rfl, Post.mk' (Ent.sep (S := _) inferInstance inferInstance) inferInstance⟩
set_option maxRecDepth 100000 in
set_option maxHeartbeats 1000000 in
theorem heldOutcome (S : HP) (w : World) [H : SepI w S] (A : Option Addr) (c n : Nat) [r : Rd S A (cEvs (mkEvs 1 n))] (k v mk : Int) (hn : n ≤ 1048576) :
    Calls Try.prog 23 #[outQ k v (.slice A n c) mk, .int .i64 1] w fun e w' => e = .returned (.int .i64 (1 + 3 * n)) ∧ Post w S w' := by
  go_enter Try.func23, Try.ntmps23
  go_wp2_with fail
  refine (heldEventS _ _ _ _ n 1 hn (by omega) (by omega)).mono ?_
  rintro e w1 ⟨rfl, rfl⟩
  go_wp2
  go_ret
  exact ⟨rfl, Post.mk' (Ent.sep (S := _) inferInstance inferInstance) inferInstance⟩
end Go.Proofs.Ythnaoedlnificaa
