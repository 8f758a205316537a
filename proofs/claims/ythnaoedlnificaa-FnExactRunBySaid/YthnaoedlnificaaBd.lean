/- Calls as they are told: compared, marked, held. Conditions: lengths within bounds. -/
import Derived.Test.YthnaoedlnificaaQb
import Derived.Test.YthnaoedlnificaaQa
import Derived.StillTailTactics
namespace Go.Proofs.Ythnaoedlnificaa
open Go.RowKit SL
attribute [local go_sem] cell_blk frozen_blk lt_blk cell_at frozen_row lt_row
set_option linter.unusedVariables false
set_option linter.unusedSimpArgs false

def cC5 (c : C5) : List Value := [.int .i64 c.fn, .int .i64 c.up, .bool c.df, .int .i64 c.en, .int .i64 c.va]
def cC5s (l : List C5) : List Value := l.flatMap cC5
theorem cC5s_len (l : List C5) : (cC5s l).length = l.length * 5 := flat_len (f := cC5) (fun _ => rfl) l
theorem cC5s_append (l m : List C5) : cC5s (l ++ m) = cC5s l ++ cC5s m := by simp [cC5s]
theorem cC5s_get {l : List C5} {k : Nat} {x : C5} (h : l[k]? = some x) : (cC5s l)[k * 5]? = some (.int .i64 x.fn) ∧ (cC5s l)[k * 5 + 1]? = some (.int .i64 x.up) ∧ (cC5s l)[k * 5 + 2]? = some (.bool x.df) ∧ (cC5s l)[k * 5 + 3]? = some (.int .i64 x.en) ∧ (cC5s l)[k * 5 + 4]? = some (.int .i64 x.va) :=
  ⟨flat_get (f := cC5) (k := 5) (fun _ => rfl) h 0 (by omega), flat_get (f := cC5) (k := 5) (fun _ => rfl) h 1 (by omega), flat_get (f := cC5) (k := 5) (fun _ => rfl) h 2 (by omega), flat_get (f := cC5) (k := 5) (fun _ => rfl) h 3 (by omega), flat_get (f := cC5) (k := 5) (fun _ => rfl) h 4 (by omega)⟩
theorem info_c5 : (Try.prog.info? 89).map (fun i => (i.zero, i.size, i.bytes)) = some (some (.agg #[.int .i64 0, .int .i64 0, .bool false, .int .i64 0, .int .i64 0]), 5, 40) := by kernel_rfl
abbrev c5V (c : C5) : Value := .agg #[.int .i64 c.fn, .int .i64 c.up, .bool c.df, .int .i64 c.en, .int .i64 c.va]
set_option maxRecDepth 100000 in
set_option maxHeartbeats 1000000 in
theorem eqCallInfo (S : HP) (w : World) [H : SepI w S] (x : C5) :
    Calls Try.prog 73 #[c5V x, c5V x] w fun e w' => e = .returned (.bool true) ∧ Post w S w' := by
  obtain ⟨a, b, d, e, f⟩ := x
  cases d <;>
  · go_enter Try.func73, Try.ntmps73
    go_wp2
    go_ret
    exact ⟨rfl, Post.mk' (Ent.sep (S := _) inferInstance inferInstance) inferInstance⟩
set_option maxRecDepth 100000 in
set_option maxHeartbeats 1000000 in
theorem eqCallInfoS (S : HP) (w : World) [H : SepI w S] (A B : Option Addr) (ca cb : Nat) (l : List C5) [ra : Rd S A (cC5s l)] [rb : Rd S B (cC5s l)] (hl : l.length ≤ 1048576) :
    Calls Try.prog 47 #[.slice A l.length ca, .slice B l.length cb] w fun e w' => e = .returned (.bool true) ∧ Post w S w' := by
  obtain ⟨n, hn⟩ : ∃ n, n = l.length := ⟨_, rfl⟩
  rw [← hn] at hl ⊢
  have HN := Hd.mk hn
  clear hn
  go_enter Try.func47, Try.ntmps47
  go_wp2
  go_loopw [5] (fun i wr => ∃ k : Nat, k ≤ n ∧ i = .int .i64 k ∧ SepI wr S ∧ ExtI w wr) (fun i _ => n - (intOf i).toNat)
  case atStart => exact ⟨0, Nat.zero_le _, rfl, inferInstance, inferInstance⟩
  case round =>
    obtain ⟨k, hk, rfl, HS, HE⟩ := hrel
    by_cases hlt : k < n
    · obtain ⟨x, hx'⟩ := get_ex (xs := l) (k := k) (by rw [← HN.out]; exact hlt)
      obtain ⟨b, off, rfl⟩ := ra.addr H (j := k) (by rw [cC5s_len, ← HN.out]; omega)
      obtain ⟨b', off', rfl⟩ := rb.addr H (j := k) (by rw [cC5s_len, ← HN.out]; omega)
      have c1 := ra.cell (cC5s_get hx').1
      have c2 := ra.cell (cC5s_get hx').2.1
      have c3 := ra.cell (cC5s_get hx').2.2.1
      have c4 := ra.cell (cC5s_get hx').2.2.2.1
      have c5 := ra.cell (cC5s_get hx').2.2.2.2
      have d1 := rb.cell (cC5s_get hx').1
      have d2 := rb.cell (cC5s_get hx').2.1
      have d3 := rb.cell (cC5s_get hx').2.2.1
      have d4 := rb.cell (cC5s_get hx').2.2.2.1
      have d5 := rb.cell (cC5s_get hx').2.2.2.2
      have HX := Hd.mk hx'
      clear hx'
      go_wp2
      go_still_tail 8, (by kernel_rfl)
      change wpList _ _ _ _ _ wr.drew
      go_wp2_with (go_at_call 73; refine (eqCallInfo _ _ x).mono ?_; rintro e w' ⟨rfl, HP'⟩; have HS2 := HP'.sep; have HE2 := HP'.ext; clear HP')
      go_roundw
      case rel => exact ⟨k + 1, by omega, by go_num, inferInstance, inferInstance⟩
      case measure => simp [intOf]; omega
    · have : k = n := by omega
      subst this
      go_wp2
      go_ret
      exact ⟨rfl, Post.mk' inferInstance inferInstance⟩
/-- The marks of calls. -/
def mkCs (k : Int) : Nat → List C5
  | 0 => []
  | n + 1 => mkCs k n ++ [⟨k + 5 * n, k + 5 * n + 1, (k + 5 * n + 1 + 1) % 3 == 0, k + 5 * n + 1 + 1 + 1, k + 5 * n + 1 + 1 + 1 + 1⟩]
theorem mkCs_len (k : Int) (n : Nat) : (mkCs k n).length = n := by
  induction n with
  | zero => rfl
  | succ n ih => simp [mkCs, ih]
theorem mkCs_get (q : Int) : ∀ {n k : Nat}, k < n → (mkCs q n)[k]? = some ⟨q + 5 * k, q + 5 * k + 1, (q + 5 * k + 1 + 1) % 3 == 0, q + 5 * k + 1 + 1 + 1, q + 5 * k + 1 + 1 + 1 + 1⟩
  | 0, k, h => by omega
  | n + 1, k, h => by
    by_cases hk : k < n
    · rw [mkCs, List.getElem?_append_left (by rw [mkCs_len]; exact hk)]; exact mkCs_get q hk
    · have : k = n := by omega
      subst this
      rw [mkCs, List.getElem?_append_right (by rw [mkCs_len]; exact Nat.le_refl _), mkCs_len, Nat.sub_self]
      rfl
theorem cC5s_upd (d r : List C5) (y x : C5) (k : Nat) (h : d.length = k) :
    (((((cC5s (d ++ y :: r)).set (k * 5) (.int .i64 x.fn)).set (k * 5 + 1) (.int .i64 x.up)).set (k * 5 + 2) (.bool x.df)).set (k * 5 + 3) (.int .i64 x.en)).set (k * 5 + 4) (.int .i64 x.va) = cC5s ((d ++ [x]) ++ r) := by
  have hl : (cC5s d).length = k * 5 := by rw [cC5s_len, h]
  rw [cC5s_append, cC5s_append, cC5s_append]
  rw [List.set_append_right _ _ (by omega), List.set_append_right _ _ (by omega), List.set_append_right _ _ (by omega), List.set_append_right _ _ (by omega), List.set_append_right _ _ (by omega), hl, Nat.sub_self, Nat.add_sub_cancel_left, Nat.add_sub_cancel_left, Nat.add_sub_cancel_left, Nat.add_sub_cancel_left, List.append_assoc]
  rfl
set_option maxRecDepth 100000 in
set_option maxHeartbeats 1000000 in
theorem markCallInfoS (F : HP) (w : World) (A : Option Addr) (c : Nat) (l : List C5) [H : SepI w (Row 89 5 (.slice A l.length c) l.length (cC5s l) * F)] (q : Int) (hl : l.length ≤ 1048576) (h0 : 0 ≤ q) (h1 : q ≤ 4611686018427387904) :
    Calls Try.prog 48 #[.slice A l.length c, .int .i64 q] w fun e w' => e = .returned (.int .i64 (q + 5 * l.length)) ∧
      Post w (Row 89 5 (.slice A l.length c) l.length (cC5s (mkCs q l.length)) * F) w' := by
  obtain ⟨n, hn'⟩ : ∃ n, n = l.length := ⟨_, rfl⟩
  have HN := Hd.mk hn'
  rw [← hn'] at hl ⊢
  rw [← hn'] at H
  clear hn'
  go_enter Try.func48, Try.ntmps48
  go_wp2
  go_loopw [1, 5] (fun v i wr => ∃ k : Nat, k ≤ n ∧ i = .int .i64 k ∧ v = .int .i64 (q + 5 * k) ∧ ExtI w wr ∧
    SepI wr (Row 89 5 (.slice A n c) n (cC5s (mkCs q k ++ l.drop k)) * F)) (fun _ i _ => n - (intOf i).toNat)
  case atStart => exact ⟨0, Nat.zero_le _, rfl, by simp, inferInstance, by simpa [mkCs] using H⟩
  case round =>
    obtain ⟨k, hk, rfl, rfl, HX, HS⟩ := hrel
    by_cases hlt : k < n
    · obtain ⟨x, hx⟩ := get_ex (xs := l) (k := k) (by rw [← HN.out]; exact hlt)
      obtain ⟨g, rfl⟩ := Row.addr HS (by omega)
      have hz : (mkCs q k ++ l.drop k)[k]? = some x := by
        rw [List.getElem?_append_right (by rw [mkCs_len]; exact Nat.le_refl _), mkCs_len, Nat.sub_self, List.getElem?_drop]; exact hx
      have d1 : CellAt _ g _ _ := Row.cellAt (e := 89) (size := 5) (g := g) (n := n) (c := c) (F := F) (cC5s_get hz).1
      have d2 : CellAt _ g _ _ := Row.cellAt (e := 89) (size := 5) (g := g) (n := n) (c := c) (F := F) (cC5s_get hz).2.1
      have d3 : CellAt _ g _ _ := Row.cellAt (e := 89) (size := 5) (g := g) (n := n) (c := c) (F := F) (cC5s_get hz).2.2.1
      have d4 : CellAt _ g _ _ := Row.cellAt (e := 89) (size := 5) (g := g) (n := n) (c := c) (F := F) (cC5s_get hz).2.2.2.1
      have d5 : CellAt _ g _ _ := Row.cellAt (e := 89) (size := 5) (g := g) (n := n) (c := c) (F := F) (cC5s_get hz).2.2.2.2
      have hd : l.drop k = x :: l.drop (k + 1) := by
        have h1 := (List.getElem?_eq_some_iff.1 hx)
        obtain ⟨hlt', e⟩ := h1
        rw [List.drop_eq_getElem_cons hlt', e]
      have HG := Hd.mk hd
      clear hx hz hd
      go_wp2
      go_roundw
      case rel => exact ⟨k + 1, by omega, by go_num, by go_num, inferInstance, SepI.cast inferInstance (by
        rw [HG.out, show cC5s (mkCs q (k + 1) ++ l.drop (k + 1)) = _ from (cC5s_upd (mkCs q k) (l.drop (k + 1)) x ⟨q + 5 * k, q + 5 * k + 1, (q + 5 * k + 1 + 1) % 3 == 0, q + 5 * k + 1 + 1 + 1, q + 5 * k + 1 + 1 + 1 + 1⟩ k (mkCs_len _ _)).symm])⟩
      case measure => simp [intOf]; omega
    · have : k = n := by omega
      subst this
      go_wp2
      go_ret
      exact ⟨rfl, Post.mk' (by rw [HN.out, List.drop_length, List.append_nil, ← HN.out] at HS; exact HS) HX⟩
set_option maxRecDepth 100000 in
set_option maxHeartbeats 1000000 in
theorem heldCallInfoS (S : HP) (w : World) [H : SepI w S] (A : Option Addr) (c n : Nat) (q : Int) [r : Rd S A (cC5s (mkCs q n))] (hn : n ≤ 1048576) (h0 : 0 ≤ q) (h1 : q ≤ 4611686018427387904) :
    Calls Try.prog 49 #[.slice A n c, .int .i64 q] w fun e w' => e = .returned (.int .i64 (q + 5 * n)) ∧ w' = w := by
  go_enter Try.func49, Try.ntmps49
  go_wp2
  go_loop [1, 5] (fun v i => ∃ k : Nat, k ≤ n ∧ i = .int .i64 k ∧ v = .int .i64 (q + 5 * k)) (fun _ i => n - (intOf i).toNat)
  case atStart => exact ⟨0, Nat.zero_le _, rfl, by simp⟩
  case round =>
    obtain ⟨k, hk, rfl, rfl⟩ := hrel
    by_cases hlt : k < n
    · obtain ⟨b, off, rfl⟩ := r.addr H (j := k) (by rw [cC5s_len, mkCs_len]; omega)
      have c1 := r.cell (cC5s_get (mkCs_get q hlt)).1
      have c2 := r.cell (cC5s_get (mkCs_get q hlt)).2.1
      have c3 := r.cell (cC5s_get (mkCs_get q hlt)).2.2.1
      have c4 := r.cell (cC5s_get (mkCs_get q hlt)).2.2.2.1
      have c5 := r.cell (cC5s_get (mkCs_get q hlt)).2.2.2.2
      simp only at c1 c2 c3 c4 c5
      go_wp2
      go_round
      case rel => exact ⟨k + 1, by omega, by go_num, by go_num⟩
      case measure => simp [intOf]; omega
    · have : k = n := by omega
      subst this
      go_wp2
      go_ret
      exact ⟨rfl, rfl⟩
end Go.Proofs.Ythnaoedlnificaa
