/- The reading of a trace: its steps, l4Trace. Conditions: lengths within bounds. -/
import Derived.Test.YtobikkdnalnllaaZo
import Derived.Test.YtobikkdnalnllaaBd
namespace Go.Proofs.Ytobikkdnalnllaa
open Go.RowKit SL
attribute [local go_sem] cell_blk frozen_blk lt_blk cell_at frozen_row lt_row
set_option linter.unusedVariables false
set_option linter.unusedSimpArgs false
theorem l4_5 (S : HP) (w : World) (x : R4V) (r r1 : R4) (e : Ev) (i : Nat) (hi : i ≤ 1000) (B : B4 i r) (hu : x.us.map (·.l) = r.unwound) (hs : step4 r e = some r1) (hk : e.k = 5) [H : SepI w (R4H x r S)] :
    Calls Try.prog 109 #[r4V x r, .agg #[.int .i64 e.k, .int .i64 e.f, .int .i64 e.v]] w (R4P S r1 w) := by
  unfold step4 at hs
  rw [if_neg (by omega), if_pos hk] at hs
  split at hs
  · cases hs
  · rename_i t rest hc
    injection hs with hs
    rw [← hs]
    exact spec_l4Panic S w x r e i hi B hu t rest hc
theorem l4_6 (S : HP) (w : World) (x : R4V) (r r1 : R4) (e : Ev) (i : Nat) (hi : i ≤ 1000) (B : B4 i r) (hu : x.us.map (·.l) = r.unwound) (hs : step4 r e = some r1) (hk : e.k = 6) [H : SepI w (R4H x r S)] :
    Calls Try.prog 110 #[r4V x r, .agg #[.int .i64 e.k, .int .i64 e.f, .int .i64 e.v]] w (R4P S r1 w) := by
  unfold step4 at hs
  rw [if_neg (by omega), if_neg (by omega), if_pos hk] at hs
  split at hs
  · rename_i t p rest hc
    split at hs
    · rename_i hok
      injection hs with hs
      rw [← hs]
      exact spec_l4Recover S w x r e i hi B hu t p rest hc hok
    · cases hs
  · cases hs
theorem l4_8 (S : HP) (w : World) (x : R4V) (r r1 : R4) (e : Ev) (i : Nat) (hi : i ≤ 1000) (B : B4 i r) (hu : x.us.map (·.l) = r.unwound) (hs : step4 r e = some r1) (hk : e.k = 8) [H : SepI w (R4H x r S)] :
    Calls Try.prog 111 #[r4V x r, .agg #[.int .i64 e.k, .int .i64 e.f, .int .i64 e.v]] w (R4P S r1 w) := by
  unfold step4 at hs
  rw [if_neg (by omega), if_neg (by omega), if_neg (by omega), if_neg (by omega), if_pos hk] at hs
  cases hc : r.calls with
  | nil => rw [hc] at hs; cases hs
  | cons t rest =>
    rw [hc] at hs
    cases rest with
    | nil =>
      have hs' : (if (okN r t.2 && true) = true then some (unwind4 r e t []) else none) = some r1 := hs
      by_cases hb : (okN r t.2 && true) = true
      · rw [if_pos hb] at hs'
        injection hs' with hs'
        rw [← hs']
        exact spec_l4Unwind0 S w x r e i hi B hu t hc (Bool.and_eq_true_iff.1 hb).1
      · rw [if_neg hb] at hs'; cases hs'
    | cons p rest =>
      have hs' : (if (okN r t.2 && (!t.1 || !decide (0 ≤ p.2) || okN r p.2)) = true then some (unwind4 r e t (p :: rest)) else none) = some r1 := hs
      by_cases hb : (okN r t.2 && (!t.1 || !decide (0 ≤ p.2) || okN r p.2)) = true
      · rw [if_pos hb] at hs'
        injection hs' with hs'
        rw [← hs']
        have hok1 := (Bool.and_eq_true_iff.1 hb).1
        cases ht : t.1 with
        | false => exact spec_l4UnwindA S w x r e i hi B hu t p rest hc hok1 ht
        | true =>
          by_cases hp : 0 ≤ p.2
          · exact spec_l4UnwindC S w x r e i hi B hu t p rest hc hok1 ht hp
          · exact spec_l4UnwindB S w x r e i hi B hu t p rest hc hok1 ht (by omega)
      · rw [if_neg hb] at hs'; cases hs'
theorem l4_9 (S : HP) (w : World) (x : R4V) (r r1 : R4) (e : Ev) (i : Nat) (hi : i ≤ 1000) (B : B4 i r) (hu : x.us.map (·.l) = r.unwound) (hs : step4 r e = some r1) (hk : e.k = 9) [H : SepI w (R4H x r S)] :
    Calls Try.prog 112 #[r4V x r] w (R4P S r1 w) := by
  unfold step4 at hs
  rw [if_neg (by omega), if_neg (by omega), if_neg (by omega), if_neg (by omega), if_neg (by omega), if_pos hk] at hs
  cases hc : r.calls with
  | nil => rw [hc] at hs; cases hs
  | cons t rest =>
    rw [hc] at hs
    cases rest with
    | nil =>
      have hs' : (if true = true then some (exit4 r t []) else none) = some r1 := hs
      rw [if_pos rfl] at hs'
      injection hs' with hs'
      rw [← hs']
      exact spec_l4Exit0 S w x r i hi B hu t hc
    | cons p rest =>
      have hs' : (if (!t.1 || !decide (0 ≤ p.2) || okN r p.2) = true then some (exit4 r t (p :: rest)) else none) = some r1 := hs
      by_cases hb : (!t.1 || !decide (0 ≤ p.2) || okN r p.2) = true
      · rw [if_pos hb] at hs'
        injection hs' with hs'
        rw [← hs']
        exact spec_l4ExitP S w x r i hi B hu t p rest hc
      · rw [if_neg hb] at hs'; cases hs'
/-- What is owned of a reading. -/
def RH (x : R4V) (r : R4) : HP :=
  Row 147 2 (.slice x.A1 r.calls.length x.c1) r.calls.length (cCl r.calls.reverse) * (Row 105 3 (.slice x.A2 r.panics.length x.c2) r.panics.length (c3s r.panics) * (Row 3 1 (.slice x.A3 r.depths.length x.c3) r.depths.length (ints r.depths) *
  (Row 26 1 (.slice x.A4 x.us.length x.c4) x.us.length (x.us.map (·.v)) * (stars (x.us.map uH) * (Row 112 2 (.slice x.A5 r.recovers.length x.c5) r.recovers.length (cPr r.recovers) * (Row 3 1 (.slice x.A6 r.replaced.length x.c6) r.replaced.length (ints r.replaced) *
  Row 3 1 (.slice x.A7 r.before.length x.c7) r.before.length (ints r.before)))))))
theorem R4H_RH (x : R4V) (r : R4) (S : HP) : R4H x r S = RH x r * S := by
  unfold RH R4H
  simp only [star_assoc]
abbrev r4c (x : R4V) (r : R4) : Array Value := r4a x.A1 x.A2 x.A3 x.A4 x.A5 x.A6 x.A7 r.calls.length r.panics.length r.depths.length x.us.length r.recovers.length r.replaced.length r.before.length x.c1 x.c2 x.c3 x.c4 x.c5 x.c6 x.c7
theorem step4_pop {r r1 : R4} {e : Ev} (hk : e.k = 7) (hs : step4 r e = some r1) : ∃ t rest, r.calls = t :: rest ∧ r1 = { r with calls := rest } := by
  unfold step4 at hs
  rw [if_neg (by omega), if_neg (by omega), if_neg (by omega), if_pos hk] at hs
  cases hc : r.calls with
  | nil => rw [hc] at hs; cases hs
  | cons t rest =>
    rw [hc] at hs
    injection hs with hs
    exact ⟨t, rest, rfl, hs.symm⟩
theorem step4_push {r r1 : R4} {e : Ev} (hk : e.k = 1 ∨ e.k = 3) (hs : step4 r e = some r1) : r1 = { r with calls := (e.k == 3, -1) :: r.calls } := by
  unfold step4 at hs
  rw [if_pos hk] at hs
  injection hs with hs
  exact hs.symm
set_option maxRecDepth 100000 in
set_option maxHeartbeats 8000000 in
theorem spec_l4Trace (S : HP) (w : World) [H : SepI w S] (A : Option Addr) (c : Nat) (t : List Ev) [r : Rd S A (cEvs t)] (ht : t.length ≤ 1000) (q0 : R4) (hr4 : read4 t = some q0) :
    Calls Try.prog 99 #[.slice A t.length c] w (R4P S q0 w) := by
  obtain ⟨m, hm⟩ : ∃ m, m = t.length := ⟨_, rfl⟩
  have HM := Hd.mk hm
  have HR4 := Hd.mk hr4
  rw [← hm] at ht ⊢
  clear hm hr4
  obtain ⟨be, hbe⟩ : ∃ be, be = w.heap.size := ⟨_, rfl⟩
  have HBE := Hd.mk hbe
  have h0 : SepI (w.alloc (.cells #[.slice none 0 0, .slice none 0 0, .slice none 0 0, .slice none 0 0, .slice none 0 0, .slice none 0 0, .slice none 0 0] 103 (0, 0))) (pts w.heap.size (.cells #[.slice none 0 0, .slice none 0 0, .slice none 0 0, .slice none 0 0, .slice none 0 0, .slice none 0 0, .slice none 0 0] 103 (0, 0)) * S) := SepI.i_alloc w (.cells #[.slice none 0 0, .slice none 0 0, .slice none 0 0, .slice none 0 0, .slice none 0 0, .slice none 0 0, .slice none 0 0] 103 (0, 0)) S _
  have h1 : SepI (w.alloc (.cells #[.slice none 0 0, .slice none 0 0, .slice none 0 0, .slice none 0 0, .slice none 0 0, .slice none 0 0, .slice none 0 0] 103 (0, 0)) |>.alloc (.cells #[] 105 (0, 0))) (Row 105 3 (.slice (some ⟨w.heap.size + 1, 0, none⟩) 0 0) 0 [] * (pts w.heap.size (.cells #[.slice none 0 0, .slice none 0 0, .slice none 0 0, .slice none 0 0, .slice none 0 0, .slice none 0 0, .slice none 0 0] 103 (0, 0)) * S)) :=
    Row.lit0 (SepI.i_alloc _ (.cells #[] 105 (0, 0)) _ _)
  have h2 : SepI (w.alloc (.cells #[.slice none 0 0, .slice none 0 0, .slice none 0 0, .slice none 0 0, .slice none 0 0, .slice none 0 0, .slice none 0 0] 103 (0, 0)) |>.alloc (.cells #[] 105 (0, 0)) |>.alloc (.cells #[] 3 (0, 0))) (Row 3 1 (.slice (some ⟨w.heap.size + 1 + 1, 0, none⟩) 0 0) 0 [] * (Row 105 3 (.slice (some ⟨w.heap.size + 1, 0, none⟩) 0 0) 0 [] * (pts w.heap.size (.cells #[.slice none 0 0, .slice none 0 0, .slice none 0 0, .slice none 0 0, .slice none 0 0, .slice none 0 0, .slice none 0 0] 103 (0, 0)) * S))) :=
    Row.lit0 (SepI.i_alloc _ (.cells #[] 3 (0, 0)) _ _)
  have h3 : SepI (w.alloc (.cells #[.slice none 0 0, .slice none 0 0, .slice none 0 0, .slice none 0 0, .slice none 0 0, .slice none 0 0, .slice none 0 0] 103 (0, 0)) |>.alloc (.cells #[] 105 (0, 0)) |>.alloc (.cells #[] 3 (0, 0)) |>.alloc (.cells #[] 26 (0, 0))) (Row 26 1 (.slice (some ⟨w.heap.size + 1 + 1 + 1, 0, none⟩) 0 0) 0 [] * (Row 3 1 (.slice (some ⟨w.heap.size + 1 + 1, 0, none⟩) 0 0) 0 [] * (Row 105 3 (.slice (some ⟨w.heap.size + 1, 0, none⟩) 0 0) 0 [] * (pts w.heap.size (.cells #[.slice none 0 0, .slice none 0 0, .slice none 0 0, .slice none 0 0, .slice none 0 0, .slice none 0 0, .slice none 0 0] 103 (0, 0)) * S)))) :=
    Row.lit0 (SepI.i_alloc _ (.cells #[] 26 (0, 0)) _ _)
  have h4 : SepI (w.alloc (.cells #[.slice none 0 0, .slice none 0 0, .slice none 0 0, .slice none 0 0, .slice none 0 0, .slice none 0 0, .slice none 0 0] 103 (0, 0)) |>.alloc (.cells #[] 105 (0, 0)) |>.alloc (.cells #[] 3 (0, 0)) |>.alloc (.cells #[] 26 (0, 0)) |>.alloc (.cells #[] 112 (0, 0))) (Row 112 2 (.slice (some ⟨w.heap.size + 1 + 1 + 1 + 1, 0, none⟩) 0 0) 0 [] * (Row 26 1 (.slice (some ⟨w.heap.size + 1 + 1 + 1, 0, none⟩) 0 0) 0 [] * (Row 3 1 (.slice (some ⟨w.heap.size + 1 + 1, 0, none⟩) 0 0) 0 [] * (Row 105 3 (.slice (some ⟨w.heap.size + 1, 0, none⟩) 0 0) 0 [] * (pts w.heap.size (.cells #[.slice none 0 0, .slice none 0 0, .slice none 0 0, .slice none 0 0, .slice none 0 0, .slice none 0 0, .slice none 0 0] 103 (0, 0)) * S))))) :=
    Row.lit0 (SepI.i_alloc _ (.cells #[] 112 (0, 0)) _ _)
  have h5 : SepI (w.alloc (.cells #[.slice none 0 0, .slice none 0 0, .slice none 0 0, .slice none 0 0, .slice none 0 0, .slice none 0 0, .slice none 0 0] 103 (0, 0)) |>.alloc (.cells #[] 105 (0, 0)) |>.alloc (.cells #[] 3 (0, 0)) |>.alloc (.cells #[] 26 (0, 0)) |>.alloc (.cells #[] 112 (0, 0)) |>.alloc (.cells #[] 3 (0, 0))) (Row 3 1 (.slice (some ⟨w.heap.size + 1 + 1 + 1 + 1 + 1, 0, none⟩) 0 0) 0 [] * (Row 112 2 (.slice (some ⟨w.heap.size + 1 + 1 + 1 + 1, 0, none⟩) 0 0) 0 [] * (Row 26 1 (.slice (some ⟨w.heap.size + 1 + 1 + 1, 0, none⟩) 0 0) 0 [] * (Row 3 1 (.slice (some ⟨w.heap.size + 1 + 1, 0, none⟩) 0 0) 0 [] * (Row 105 3 (.slice (some ⟨w.heap.size + 1, 0, none⟩) 0 0) 0 [] * (pts w.heap.size (.cells #[.slice none 0 0, .slice none 0 0, .slice none 0 0, .slice none 0 0, .slice none 0 0, .slice none 0 0, .slice none 0 0] 103 (0, 0)) * S)))))) :=
    Row.lit0 (SepI.i_alloc _ (.cells #[] 3 (0, 0)) _ _)
  have h6 : SepI (w.alloc (.cells #[.slice none 0 0, .slice none 0 0, .slice none 0 0, .slice none 0 0, .slice none 0 0, .slice none 0 0, .slice none 0 0] 103 (0, 0)) |>.alloc (.cells #[] 105 (0, 0)) |>.alloc (.cells #[] 3 (0, 0)) |>.alloc (.cells #[] 26 (0, 0)) |>.alloc (.cells #[] 112 (0, 0)) |>.alloc (.cells #[] 3 (0, 0)) |>.alloc (.cells #[] 3 (0, 0))) (Row 3 1 (.slice (some ⟨w.heap.size + 1 + 1 + 1 + 1 + 1 + 1, 0, none⟩) 0 0) 0 [] * (Row 3 1 (.slice (some ⟨w.heap.size + 1 + 1 + 1 + 1 + 1, 0, none⟩) 0 0) 0 [] * (Row 112 2 (.slice (some ⟨w.heap.size + 1 + 1 + 1 + 1, 0, none⟩) 0 0) 0 [] * (Row 26 1 (.slice (some ⟨w.heap.size + 1 + 1 + 1, 0, none⟩) 0 0) 0 [] * (Row 3 1 (.slice (some ⟨w.heap.size + 1 + 1, 0, none⟩) 0 0) 0 [] * (Row 105 3 (.slice (some ⟨w.heap.size + 1, 0, none⟩) 0 0) 0 [] * (pts w.heap.size (.cells #[.slice none 0 0, .slice none 0 0, .slice none 0 0, .slice none 0 0, .slice none 0 0, .slice none 0 0, .slice none 0 0] 103 (0, 0)) * S))))))) :=
    Row.lit0 (SepI.i_alloc _ (.cells #[] 3 (0, 0)) _ _)
  clear h0 h1 h2 h3 h4 h5 hbe
  go_enter Try.func99, Try.ntmps99
  go_wp2
  rw [← HBE.out] at h6 ⊢
  go_loopw [4] (fun v4 wr => ∃ (i : Nat) (q : R4) (x : R4V), i ≤ m ∧ v4 = .int .i64 i ∧ Hd (x.us.map (·.l) = q.unwound) ∧ Hd (read4 (t.take i) = some q) ∧ ExtI w wr ∧ SepI wr (pts (be + 1 + 1 + 1 + 1 + 1 + 1 + 1) (.cells (r4c x q) 103 (0, 0)) * (pts be (.cells #[.slice none 0 0, .slice none 0 0, .slice none 0 0, .slice none 0 0, .slice none 0 0, .slice none 0 0, .slice none 0 0] 103 (0, 0)) * (RH x q * S)))) (fun v _ => m - (intOf v).toNat)
  case atStart => exact ⟨0, ⟨[], [], [], [], [], [], []⟩, ⟨none, 0, some ⟨be + 1, 0, none⟩, 0, some ⟨be + 1 + 1, 0, none⟩, 0, some ⟨be + 1 + 1 + 1, 0, none⟩, 0, some ⟨be + 1 + 1 + 1 + 1, 0, none⟩, 0, some ⟨be + 1 + 1 + 1 + 1 + 1, 0, none⟩, 0, some ⟨be + 1 + 1 + 1 + 1 + 1 + 1, 0, none⟩, 0, []⟩, Nat.zero_le _, rfl, ⟨rfl⟩, ⟨rfl⟩, inferInstance, SepI.cast (Row.nil0 (Ent.sep (S := _) (T := pts (w.heap.size + 1 + 1 + 1 + 1 + 1 + 1 + 1) (.cells #[.slice none 0 0, .slice (some ⟨be + 1, 0, none⟩) 0 0, .slice (some ⟨be + 1 + 1, 0, none⟩) 0 0, .slice (some ⟨be + 1 + 1 + 1, 0, none⟩) 0 0, .slice (some ⟨be + 1 + 1 + 1 + 1, 0, none⟩) 0 0, .slice (some ⟨be + 1 + 1 + 1 + 1 + 1, 0, none⟩) 0 0, .slice (some ⟨be + 1 + 1 + 1 + 1 + 1 + 1, 0, none⟩) 0 0] 103 (0, 0)) * (Row 3 1 (.slice (some ⟨be + 1 + 1 + 1 + 1 + 1 + 1, 0, none⟩) 0 0) 0 [] * (Row 3 1 (.slice (some ⟨be + 1 + 1 + 1 + 1 + 1, 0, none⟩) 0 0) 0 [] * (Row 112 2 (.slice (some ⟨be + 1 + 1 + 1 + 1, 0, none⟩) 0 0) 0 [] * (Row 26 1 (.slice (some ⟨be + 1 + 1 + 1, 0, none⟩) 0 0) 0 [] * (Row 3 1 (.slice (some ⟨be + 1 + 1, 0, none⟩) 0 0) 0 [] * (Row 105 3 (.slice (some ⟨be + 1, 0, none⟩) 0 0) 0 [] * (pts be (.cells #[.slice none 0 0, .slice none 0 0, .slice none 0 0, .slice none 0 0, .slice none 0 0, .slice none 0 0, .slice none 0 0] 103 (0, 0)) * S)))))))) inferInstance inferInstance) 147 2).emp (by
      rw [HBE.out]
      unfold RH
      simp only [List.map_nil, stars, List.length_nil, List.reverse_nil, r4c, r4a]
      unfold cCl c3s ints cPr
      simp only [List.flatMap_nil, List.map_nil]
      ac_rfl)⟩
  case round =>
    obtain ⟨i, q, x, hi, rfl, HU, HQ, HX, HS⟩ := hrel
    clear h6
    by_cases hlt : i < m
    · obtain ⟨⟨k, f, v⟩, hs1⟩ := get_ex (xs := t) (k := i) (by rw [← HM.out]; exact hlt)
      obtain ⟨bp, op, rfl⟩ := r.addr H (j := i) (by rw [cEvs_len, ← HM.out]; omega)
      have e1 := r.cell (cEvs_get hs1).1
      have e2 := r.cell (cEvs_get hs1).2.1
      have e3 := r.cell (cEvs_get hs1).2.2
      simp only at e1 e2 e3
      have HQ1 : Hd (read4 (t.take (i + 1)) = step4 q ⟨k, f, v⟩) := ⟨by rw [read4_next hs1, HQ.out]; rfl⟩
      have HB : Hd (B4 i q) := ⟨B4.all (by have := HM.out; omega) HQ.out⟩
      obtain ⟨q1, hq1⟩ := read4_take HR4.out (i + 1)
      have HQ2 := Hd.mk hq1
      have HST : Hd (step4 q ⟨k, f, v⟩ = some q1) := ⟨by rw [← HQ1.out, hq1]⟩
      clear hs1 hq1 HQ1 HQ
      obtain ⟨A1, c1, A2, c2, A3, c3, A4, c4, A5, c5, A6, c6, A7, c7, us⟩ := x
      obtain ⟨ca, pn, dp, un, rv, rp, bf⟩ := q
      by_cases k5 : k = 5
      · subst k5
        obtain ⟨ca1, pn1, dp1, un1, rv1, rp1, bf1⟩ := q1
        go_wp2_with fail
        refine (@l4_5 (pts wr.heap.size (.cells #[.int .i64 5, .int .i64 f, .int .i64 v] 75 (0, 0)) * (pts (be + 1 + 1 + 1 + 1 + 1 + 1 + 1) (.cells #[Value.slice A1 ca.length c1, .slice A2 pn.length c2, .slice A3 dp.length c3, .slice A4 us.length c4, .slice A5 rv.length c5, .slice A6 rp.length c6, .slice A7 bf.length c7] 103 (0, 0)) * (pts be (.cells #[.slice none 0 0, .slice none 0 0, .slice none 0 0, .slice none 0 0, .slice none 0 0, .slice none 0 0, .slice none 0 0] 103 (0, 0)) * S))) _ ⟨A1, c1, A2, c2, A3, c3, A4, c4, A5, c5, A6, c6, A7, c7, us⟩ ⟨ca, pn, dp, un, rv, rp, bf⟩ ⟨ca1, pn1, dp1, un1, rv1, rp1, bf1⟩ ⟨5, f, v⟩ i (by omega) HB.out HU.out HST.out rfl (SepI.cast (Ent.sep (S := _) (T := pts wr.heap.size (.cells #[.int .i64 5, .int .i64 f, .int .i64 v] 75 (0, 0)) * (pts (be + 1 + 1 + 1 + 1 + 1 + 1 + 1) (.cells #[Value.slice A1 ca.length c1, .slice A2 pn.length c2, .slice A3 dp.length c3, .slice A4 us.length c4, .slice A5 rv.length c5, .slice A6 rp.length c6, .slice A7 bf.length c7] 103 (0, 0)) * (pts be (.cells #[.slice none 0 0, .slice none 0 0, .slice none 0 0, .slice none 0 0, .slice none 0 0, .slice none 0 0, .slice none 0 0] 103 (0, 0)) * (RH ⟨A1, c1, A2, c2, A3, c3, A4, c4, A5, c5, A6, c6, A7, c7, us⟩ ⟨ca, pn, dp, un, rv, rp, bf⟩ * S)))) inferInstance inferInstance) (by rw [R4H_RH]; ac_rfl))).mono ?_
        rintro e w6 ⟨⟨B1, d1, B2, d2, B3, d3, B4, d4, B5, d5, B6, d6, B7, d7, vs⟩, hu1, rfl, HP⟩
        have HU1 := Hd.mk hu1
        have HS6 : SepI w6 (pts wr.heap.size (.cells #[.int .i64 5, .int .i64 f, .int .i64 v] 75 (0, 0)) * (pts (be + 1 + 1 + 1 + 1 + 1 + 1 + 1) (.cells #[Value.slice A1 ca.length c1, .slice A2 pn.length c2, .slice A3 dp.length c3, .slice A4 us.length c4, .slice A5 rv.length c5, .slice A6 rp.length c6, .slice A7 bf.length c7] 103 (0, 0)) * (pts be (.cells #[.slice none 0 0, .slice none 0 0, .slice none 0 0, .slice none 0 0, .slice none 0 0, .slice none 0 0, .slice none 0 0] 103 (0, 0)) * (RH ⟨B1, d1, B2, d2, B3, d3, B4, d4, B5, d5, B6, d6, B7, d7, vs⟩ ⟨ca1, pn1, dp1, un1, rv1, rp1, bf1⟩ * S)))) := SepI.cast HP.sep (by rw [R4H_RH]; ac_rfl)
        have HE6 := HP.ext
        clear HP hu1
        have hv : r4V ⟨B1, d1, B2, d2, B3, d3, B4, d4, B5, d5, B6, d6, B7, d7, vs⟩ ⟨ca1, pn1, dp1, un1, rv1, rp1, bf1⟩ = .agg #[Value.slice B1 ca1.length d1, .slice B2 pn1.length d2, .slice B3 dp1.length d3, .slice B4 vs.length d4, .slice B5 rv1.length d5, .slice B6 rp1.length d6, .slice B7 bf1.length d7] := rfl
        rw [hv]
        clear hv
        go_wp2_with (refine ev_store rfl 103 _ _ rfl (be + 1 + 1 + 1 + 1 + 1 + 1 + 1) #[Value.slice B1 ca1.length d1, .slice B2 pn1.length d2, .slice B3 dp1.length d3, .slice B4 vs.length d4, .slice B5 rv1.length d5, .slice B6 rp1.length d6, .slice B7 bf1.length d7] rfl rfl info_r4 (by rfl) (by simp [Value.oneCell']) ?_; intro w9 HS9 HE9)
        go_roundw
        case rel => exact ⟨i + 1, ⟨ca1, pn1, dp1, un1, rv1, rp1, bf1⟩, ⟨B1, d1, B2, d2, B3, d3, B4, d4, B5, d5, B6, d6, B7, d7, vs⟩, by omega, by go_num, HU1, HQ2, inferInstance, Ent.sep (S := _) (T := pts (be + 1 + 1 + 1 + 1 + 1 + 1 + 1) (.cells #[Value.slice B1 ca1.length d1, .slice B2 pn1.length d2, .slice B3 dp1.length d3, .slice B4 vs.length d4, .slice B5 rv1.length d5, .slice B6 rp1.length d6, .slice B7 bf1.length d7] 103 (0, 0)) * (pts be (.cells #[.slice none 0 0, .slice none 0 0, .slice none 0 0, .slice none 0 0, .slice none 0 0, .slice none 0 0, .slice none 0 0] 103 (0, 0)) * (RH ⟨B1, d1, B2, d2, B3, d3, B4, d4, B5, d5, B6, d6, B7, d7, vs⟩ ⟨ca1, pn1, dp1, un1, rv1, rp1, bf1⟩ * S))) inferInstance inferInstance⟩
        case measure => (simp [intOf]; try omega)
      by_cases k6 : k = 6
      · subst k6
        obtain ⟨ca1, pn1, dp1, un1, rv1, rp1, bf1⟩ := q1
        go_wp2_with fail
        refine (@l4_6 (pts wr.heap.size (.cells #[.int .i64 6, .int .i64 f, .int .i64 v] 75 (0, 0)) * (pts (be + 1 + 1 + 1 + 1 + 1 + 1 + 1) (.cells #[Value.slice A1 ca.length c1, .slice A2 pn.length c2, .slice A3 dp.length c3, .slice A4 us.length c4, .slice A5 rv.length c5, .slice A6 rp.length c6, .slice A7 bf.length c7] 103 (0, 0)) * (pts be (.cells #[.slice none 0 0, .slice none 0 0, .slice none 0 0, .slice none 0 0, .slice none 0 0, .slice none 0 0, .slice none 0 0] 103 (0, 0)) * S))) _ ⟨A1, c1, A2, c2, A3, c3, A4, c4, A5, c5, A6, c6, A7, c7, us⟩ ⟨ca, pn, dp, un, rv, rp, bf⟩ ⟨ca1, pn1, dp1, un1, rv1, rp1, bf1⟩ ⟨6, f, v⟩ i (by omega) HB.out HU.out HST.out rfl (SepI.cast (Ent.sep (S := _) (T := pts wr.heap.size (.cells #[.int .i64 6, .int .i64 f, .int .i64 v] 75 (0, 0)) * (pts (be + 1 + 1 + 1 + 1 + 1 + 1 + 1) (.cells #[Value.slice A1 ca.length c1, .slice A2 pn.length c2, .slice A3 dp.length c3, .slice A4 us.length c4, .slice A5 rv.length c5, .slice A6 rp.length c6, .slice A7 bf.length c7] 103 (0, 0)) * (pts be (.cells #[.slice none 0 0, .slice none 0 0, .slice none 0 0, .slice none 0 0, .slice none 0 0, .slice none 0 0, .slice none 0 0] 103 (0, 0)) * (RH ⟨A1, c1, A2, c2, A3, c3, A4, c4, A5, c5, A6, c6, A7, c7, us⟩ ⟨ca, pn, dp, un, rv, rp, bf⟩ * S)))) inferInstance inferInstance) (by rw [R4H_RH]; ac_rfl))).mono ?_
        rintro e w6 ⟨⟨B1, d1, B2, d2, B3, d3, B4, d4, B5, d5, B6, d6, B7, d7, vs⟩, hu1, rfl, HP⟩
        have HU1 := Hd.mk hu1
        have HS6 : SepI w6 (pts wr.heap.size (.cells #[.int .i64 6, .int .i64 f, .int .i64 v] 75 (0, 0)) * (pts (be + 1 + 1 + 1 + 1 + 1 + 1 + 1) (.cells #[Value.slice A1 ca.length c1, .slice A2 pn.length c2, .slice A3 dp.length c3, .slice A4 us.length c4, .slice A5 rv.length c5, .slice A6 rp.length c6, .slice A7 bf.length c7] 103 (0, 0)) * (pts be (.cells #[.slice none 0 0, .slice none 0 0, .slice none 0 0, .slice none 0 0, .slice none 0 0, .slice none 0 0, .slice none 0 0] 103 (0, 0)) * (RH ⟨B1, d1, B2, d2, B3, d3, B4, d4, B5, d5, B6, d6, B7, d7, vs⟩ ⟨ca1, pn1, dp1, un1, rv1, rp1, bf1⟩ * S)))) := SepI.cast HP.sep (by rw [R4H_RH]; ac_rfl)
        have HE6 := HP.ext
        clear HP hu1
        have hv : r4V ⟨B1, d1, B2, d2, B3, d3, B4, d4, B5, d5, B6, d6, B7, d7, vs⟩ ⟨ca1, pn1, dp1, un1, rv1, rp1, bf1⟩ = .agg #[Value.slice B1 ca1.length d1, .slice B2 pn1.length d2, .slice B3 dp1.length d3, .slice B4 vs.length d4, .slice B5 rv1.length d5, .slice B6 rp1.length d6, .slice B7 bf1.length d7] := rfl
        rw [hv]
        clear hv
        go_wp2_with (refine ev_store rfl 103 _ _ rfl (be + 1 + 1 + 1 + 1 + 1 + 1 + 1) #[Value.slice B1 ca1.length d1, .slice B2 pn1.length d2, .slice B3 dp1.length d3, .slice B4 vs.length d4, .slice B5 rv1.length d5, .slice B6 rp1.length d6, .slice B7 bf1.length d7] rfl rfl info_r4 (by rfl) (by simp [Value.oneCell']) ?_; intro w9 HS9 HE9)
        go_roundw
        case rel => exact ⟨i + 1, ⟨ca1, pn1, dp1, un1, rv1, rp1, bf1⟩, ⟨B1, d1, B2, d2, B3, d3, B4, d4, B5, d5, B6, d6, B7, d7, vs⟩, by omega, by go_num, HU1, HQ2, inferInstance, Ent.sep (S := _) (T := pts (be + 1 + 1 + 1 + 1 + 1 + 1 + 1) (.cells #[Value.slice B1 ca1.length d1, .slice B2 pn1.length d2, .slice B3 dp1.length d3, .slice B4 vs.length d4, .slice B5 rv1.length d5, .slice B6 rp1.length d6, .slice B7 bf1.length d7] 103 (0, 0)) * (pts be (.cells #[.slice none 0 0, .slice none 0 0, .slice none 0 0, .slice none 0 0, .slice none 0 0, .slice none 0 0, .slice none 0 0] 103 (0, 0)) * (RH ⟨B1, d1, B2, d2, B3, d3, B4, d4, B5, d5, B6, d6, B7, d7, vs⟩ ⟨ca1, pn1, dp1, un1, rv1, rp1, bf1⟩ * S))) inferInstance inferInstance⟩
        case measure => (simp [intOf]; try omega)
      by_cases k8 : k = 8
      · subst k8
        obtain ⟨ca1, pn1, dp1, un1, rv1, rp1, bf1⟩ := q1
        go_wp2_with fail
        refine (@l4_8 (pts wr.heap.size (.cells #[.int .i64 8, .int .i64 f, .int .i64 v] 75 (0, 0)) * (pts (be + 1 + 1 + 1 + 1 + 1 + 1 + 1) (.cells #[Value.slice A1 ca.length c1, .slice A2 pn.length c2, .slice A3 dp.length c3, .slice A4 us.length c4, .slice A5 rv.length c5, .slice A6 rp.length c6, .slice A7 bf.length c7] 103 (0, 0)) * (pts be (.cells #[.slice none 0 0, .slice none 0 0, .slice none 0 0, .slice none 0 0, .slice none 0 0, .slice none 0 0, .slice none 0 0] 103 (0, 0)) * S))) _ ⟨A1, c1, A2, c2, A3, c3, A4, c4, A5, c5, A6, c6, A7, c7, us⟩ ⟨ca, pn, dp, un, rv, rp, bf⟩ ⟨ca1, pn1, dp1, un1, rv1, rp1, bf1⟩ ⟨8, f, v⟩ i (by omega) HB.out HU.out HST.out rfl (SepI.cast (Ent.sep (S := _) (T := pts wr.heap.size (.cells #[.int .i64 8, .int .i64 f, .int .i64 v] 75 (0, 0)) * (pts (be + 1 + 1 + 1 + 1 + 1 + 1 + 1) (.cells #[Value.slice A1 ca.length c1, .slice A2 pn.length c2, .slice A3 dp.length c3, .slice A4 us.length c4, .slice A5 rv.length c5, .slice A6 rp.length c6, .slice A7 bf.length c7] 103 (0, 0)) * (pts be (.cells #[.slice none 0 0, .slice none 0 0, .slice none 0 0, .slice none 0 0, .slice none 0 0, .slice none 0 0, .slice none 0 0] 103 (0, 0)) * (RH ⟨A1, c1, A2, c2, A3, c3, A4, c4, A5, c5, A6, c6, A7, c7, us⟩ ⟨ca, pn, dp, un, rv, rp, bf⟩ * S)))) inferInstance inferInstance) (by rw [R4H_RH]; ac_rfl))).mono ?_
        rintro e w6 ⟨⟨B1, d1, B2, d2, B3, d3, B4, d4, B5, d5, B6, d6, B7, d7, vs⟩, hu1, rfl, HP⟩
        have HU1 := Hd.mk hu1
        have HS6 : SepI w6 (pts wr.heap.size (.cells #[.int .i64 8, .int .i64 f, .int .i64 v] 75 (0, 0)) * (pts (be + 1 + 1 + 1 + 1 + 1 + 1 + 1) (.cells #[Value.slice A1 ca.length c1, .slice A2 pn.length c2, .slice A3 dp.length c3, .slice A4 us.length c4, .slice A5 rv.length c5, .slice A6 rp.length c6, .slice A7 bf.length c7] 103 (0, 0)) * (pts be (.cells #[.slice none 0 0, .slice none 0 0, .slice none 0 0, .slice none 0 0, .slice none 0 0, .slice none 0 0, .slice none 0 0] 103 (0, 0)) * (RH ⟨B1, d1, B2, d2, B3, d3, B4, d4, B5, d5, B6, d6, B7, d7, vs⟩ ⟨ca1, pn1, dp1, un1, rv1, rp1, bf1⟩ * S)))) := SepI.cast HP.sep (by rw [R4H_RH]; ac_rfl)
        have HE6 := HP.ext
        clear HP hu1
        have hv : r4V ⟨B1, d1, B2, d2, B3, d3, B4, d4, B5, d5, B6, d6, B7, d7, vs⟩ ⟨ca1, pn1, dp1, un1, rv1, rp1, bf1⟩ = .agg #[Value.slice B1 ca1.length d1, .slice B2 pn1.length d2, .slice B3 dp1.length d3, .slice B4 vs.length d4, .slice B5 rv1.length d5, .slice B6 rp1.length d6, .slice B7 bf1.length d7] := rfl
        rw [hv]
        clear hv
        go_wp2_with (refine ev_store rfl 103 _ _ rfl (be + 1 + 1 + 1 + 1 + 1 + 1 + 1) #[Value.slice B1 ca1.length d1, .slice B2 pn1.length d2, .slice B3 dp1.length d3, .slice B4 vs.length d4, .slice B5 rv1.length d5, .slice B6 rp1.length d6, .slice B7 bf1.length d7] rfl rfl info_r4 (by rfl) (by simp [Value.oneCell']) ?_; intro w9 HS9 HE9)
        go_roundw
        case rel => exact ⟨i + 1, ⟨ca1, pn1, dp1, un1, rv1, rp1, bf1⟩, ⟨B1, d1, B2, d2, B3, d3, B4, d4, B5, d5, B6, d6, B7, d7, vs⟩, by omega, by go_num, HU1, HQ2, inferInstance, Ent.sep (S := _) (T := pts (be + 1 + 1 + 1 + 1 + 1 + 1 + 1) (.cells #[Value.slice B1 ca1.length d1, .slice B2 pn1.length d2, .slice B3 dp1.length d3, .slice B4 vs.length d4, .slice B5 rv1.length d5, .slice B6 rp1.length d6, .slice B7 bf1.length d7] 103 (0, 0)) * (pts be (.cells #[.slice none 0 0, .slice none 0 0, .slice none 0 0, .slice none 0 0, .slice none 0 0, .slice none 0 0, .slice none 0 0] 103 (0, 0)) * (RH ⟨B1, d1, B2, d2, B3, d3, B4, d4, B5, d5, B6, d6, B7, d7, vs⟩ ⟨ca1, pn1, dp1, un1, rv1, rp1, bf1⟩ * S))) inferInstance inferInstance⟩
        case measure => (simp [intOf]; try omega)
      by_cases k9 : k = 9
      · subst k9
        obtain ⟨ca1, pn1, dp1, un1, rv1, rp1, bf1⟩ := q1
        go_wp2_with fail
        refine (@l4_9 (pts wr.heap.size (.cells #[.int .i64 9, .int .i64 f, .int .i64 v] 75 (0, 0)) * (pts (be + 1 + 1 + 1 + 1 + 1 + 1 + 1) (.cells #[Value.slice A1 ca.length c1, .slice A2 pn.length c2, .slice A3 dp.length c3, .slice A4 us.length c4, .slice A5 rv.length c5, .slice A6 rp.length c6, .slice A7 bf.length c7] 103 (0, 0)) * (pts be (.cells #[.slice none 0 0, .slice none 0 0, .slice none 0 0, .slice none 0 0, .slice none 0 0, .slice none 0 0, .slice none 0 0] 103 (0, 0)) * S))) _ ⟨A1, c1, A2, c2, A3, c3, A4, c4, A5, c5, A6, c6, A7, c7, us⟩ ⟨ca, pn, dp, un, rv, rp, bf⟩ ⟨ca1, pn1, dp1, un1, rv1, rp1, bf1⟩ ⟨9, f, v⟩ i (by omega) HB.out HU.out HST.out rfl (SepI.cast (Ent.sep (S := _) (T := pts wr.heap.size (.cells #[.int .i64 9, .int .i64 f, .int .i64 v] 75 (0, 0)) * (pts (be + 1 + 1 + 1 + 1 + 1 + 1 + 1) (.cells #[Value.slice A1 ca.length c1, .slice A2 pn.length c2, .slice A3 dp.length c3, .slice A4 us.length c4, .slice A5 rv.length c5, .slice A6 rp.length c6, .slice A7 bf.length c7] 103 (0, 0)) * (pts be (.cells #[.slice none 0 0, .slice none 0 0, .slice none 0 0, .slice none 0 0, .slice none 0 0, .slice none 0 0, .slice none 0 0] 103 (0, 0)) * (RH ⟨A1, c1, A2, c2, A3, c3, A4, c4, A5, c5, A6, c6, A7, c7, us⟩ ⟨ca, pn, dp, un, rv, rp, bf⟩ * S)))) inferInstance inferInstance) (by rw [R4H_RH]; ac_rfl))).mono ?_
        rintro e w6 ⟨⟨B1, d1, B2, d2, B3, d3, B4, d4, B5, d5, B6, d6, B7, d7, vs⟩, hu1, rfl, HP⟩
        have HU1 := Hd.mk hu1
        have HS6 : SepI w6 (pts wr.heap.size (.cells #[.int .i64 9, .int .i64 f, .int .i64 v] 75 (0, 0)) * (pts (be + 1 + 1 + 1 + 1 + 1 + 1 + 1) (.cells #[Value.slice A1 ca.length c1, .slice A2 pn.length c2, .slice A3 dp.length c3, .slice A4 us.length c4, .slice A5 rv.length c5, .slice A6 rp.length c6, .slice A7 bf.length c7] 103 (0, 0)) * (pts be (.cells #[.slice none 0 0, .slice none 0 0, .slice none 0 0, .slice none 0 0, .slice none 0 0, .slice none 0 0, .slice none 0 0] 103 (0, 0)) * (RH ⟨B1, d1, B2, d2, B3, d3, B4, d4, B5, d5, B6, d6, B7, d7, vs⟩ ⟨ca1, pn1, dp1, un1, rv1, rp1, bf1⟩ * S)))) := SepI.cast HP.sep (by rw [R4H_RH]; ac_rfl)
        have HE6 := HP.ext
        clear HP hu1
        have hv : r4V ⟨B1, d1, B2, d2, B3, d3, B4, d4, B5, d5, B6, d6, B7, d7, vs⟩ ⟨ca1, pn1, dp1, un1, rv1, rp1, bf1⟩ = .agg #[Value.slice B1 ca1.length d1, .slice B2 pn1.length d2, .slice B3 dp1.length d3, .slice B4 vs.length d4, .slice B5 rv1.length d5, .slice B6 rp1.length d6, .slice B7 bf1.length d7] := rfl
        rw [hv]
        clear hv
        go_wp2_with (refine ev_store rfl 103 _ _ rfl (be + 1 + 1 + 1 + 1 + 1 + 1 + 1) #[Value.slice B1 ca1.length d1, .slice B2 pn1.length d2, .slice B3 dp1.length d3, .slice B4 vs.length d4, .slice B5 rv1.length d5, .slice B6 rp1.length d6, .slice B7 bf1.length d7] rfl rfl info_r4 (by rfl) (by simp [Value.oneCell']) ?_; intro w9 HS9 HE9)
        go_roundw
        case rel => exact ⟨i + 1, ⟨ca1, pn1, dp1, un1, rv1, rp1, bf1⟩, ⟨B1, d1, B2, d2, B3, d3, B4, d4, B5, d5, B6, d6, B7, d7, vs⟩, by omega, by go_num, HU1, HQ2, inferInstance, Ent.sep (S := _) (T := pts (be + 1 + 1 + 1 + 1 + 1 + 1 + 1) (.cells #[Value.slice B1 ca1.length d1, .slice B2 pn1.length d2, .slice B3 dp1.length d3, .slice B4 vs.length d4, .slice B5 rv1.length d5, .slice B6 rp1.length d6, .slice B7 bf1.length d7] 103 (0, 0)) * (pts be (.cells #[.slice none 0 0, .slice none 0 0, .slice none 0 0, .slice none 0 0, .slice none 0 0, .slice none 0 0, .slice none 0 0] 103 (0, 0)) * (RH ⟨B1, d1, B2, d2, B3, d3, B4, d4, B5, d5, B6, d6, B7, d7, vs⟩ ⟨ca1, pn1, dp1, un1, rv1, rp1, bf1⟩ * S))) inferInstance inferInstance⟩
        case measure => (simp [intOf]; try omega)
      by_cases k7 : k = 7
      · subst k7
        obtain ⟨t0, rest, hc, hq⟩ := step4_pop rfl HST.out
        simp only at hc hq
        subst hc
        subst hq
        obtain ⟨kk, hkk⟩ : ∃ kk, rest.length = kk := ⟨_, rfl⟩
        obtain ⟨cs, hcs⟩ : ∃ cs, cs = (t0 :: rest).reverse := ⟨_, rfl⟩
        have HKK := Hd.mk hkk
        have hkb : kk + 1 ≤ 1000 := by have h1 := HB.out.ca; simp only [List.length_cons] at h1; omega
        have HTK : Hd ((cCl cs).take (kk * 2) = cCl rest.reverse) := ⟨by rw [hcs, List.reverse_cons, cCl_append, List.take_left' (by rw [cCl_len, List.length_reverse, hkk])]⟩
        have h9 : SepI wr (Row 147 2 (.slice A1 (kk + 1) c1) (kk + 1) (cCl cs) * (pts (be + 1 + 1 + 1 + 1 + 1 + 1 + 1) (.cells #[Value.slice A1 (kk + 1) c1, .slice A2 pn.length c2, .slice A3 dp.length c3, .slice A4 us.length c4, .slice A5 rv.length c5, .slice A6 rp.length c6, .slice A7 bf.length c7] 103 (0, 0)) * (pts be (.cells #[.slice none 0 0, .slice none 0 0, .slice none 0 0, .slice none 0 0, .slice none 0 0, .slice none 0 0, .slice none 0 0] 103 (0, 0)) * (Row 105 3 (.slice A2 pn.length c2) pn.length (c3s pn) * (Row 3 1 (.slice A3 dp.length c3) dp.length (ints dp) * (Row 26 1 (.slice A4 us.length c4) us.length (us.map (·.v)) * (stars (us.map uH) * (Row 112 2 (.slice A5 rv.length c5) rv.length (cPr rv) * (Row 3 1 (.slice A6 rp.length c6) rp.length (ints rp) * (Row 3 1 (.slice A7 bf.length c7) bf.length (ints bf) * (S))))))))))) := SepI.cast HS (by unfold RH; simp only [r4c, r4a, List.length_cons]; rw [hkk, ← hcs]; ac_rfl)
        have hcap : kk + 1 ≤ c1 := by
          obtain ⟨A9, c9, h9, h9a, _⟩ := Row.form h9
          injection h9 with _ _ h9b
          omega
        obtain ⟨g0, rfl⟩ := Row.addr h9 (by omega)
        have HAR : Hd ((#[Value.slice (some ⟨g0, 0, none⟩) (kk + 1) c1, .slice A2 pn.length c2, .slice A3 dp.length c3, .slice A4 us.length c4, .slice A5 rv.length c5, .slice A6 rp.length c6, .slice A7 bf.length c7]).setIfInBounds 0 (.slice (some ⟨g0, 0, none⟩) kk c1) = #[Value.slice (some ⟨g0, 0, none⟩) (kk) c1, .slice A2 pn.length c2, .slice A3 dp.length c3, .slice A4 us.length c4, .slice A5 rv.length c5, .slice A6 rp.length c6, .slice A7 bf.length c7]) := ⟨rfl⟩
        clear HS hcs hkk
        go_wp2
        go_roundw
        case rel => exact ⟨i + 1, ⟨rest, pn, dp, un, rv, rp, bf⟩, ⟨some ⟨g0, 0, none⟩, c1, A2, c2, A3, c3, A4, c4, A5, c5, A6, c6, A7, c7, us⟩, by omega, by go_num, HU, HQ2, inferInstance, SepI.cast (Row.cutG (i := kk) (Ent.sep (S := _) (T := Row 147 2 (.slice (some ⟨g0, 0, none⟩) (kk + 1) c1) (kk + 1) (cCl cs) * (pts (be + 1 + 1 + 1 + 1 + 1 + 1 + 1) (.cells ((#[Value.slice (some ⟨g0, 0, none⟩) (kk + 1) c1, .slice A2 pn.length c2, .slice A3 dp.length c3, .slice A4 us.length c4, .slice A5 rv.length c5, .slice A6 rp.length c6, .slice A7 bf.length c7]).setIfInBounds 0 (.slice (some ⟨g0, 0, none⟩) kk c1)) 103 (0, 0)) * (pts be (.cells #[.slice none 0 0, .slice none 0 0, .slice none 0 0, .slice none 0 0, .slice none 0 0, .slice none 0 0, .slice none 0 0] 103 (0, 0)) * (Row 105 3 (.slice A2 pn.length c2) pn.length (c3s pn) * (Row 3 1 (.slice A3 dp.length c3) dp.length (ints dp) * (Row 26 1 (.slice A4 us.length c4) us.length (us.map (·.v)) * (stars (us.map uH) * (Row 112 2 (.slice A5 rv.length c5) rv.length (cPr rv) * (Row 3 1 (.slice A6 rp.length c6) rp.length (ints rp) * (Row 3 1 (.slice A7 bf.length c7) bf.length (ints bf) * (S))))))))))) inferInstance inferInstance) (by omega)) (by rw [HTK.out, HAR.out]; unfold RH; simp only [r4c, r4a]; rw [HKK.out]; ac_rfl)⟩
        case measure => (simp [intOf]; try omega)
      by_cases k13 : k = 1 ∨ k = 3
      · rcases k13 with rfl | rfl
        · obtain hq : q1 = ⟨(false, -1) :: ca, pn, dp, un, rv, rp, bf⟩ := step4_push (Or.inl rfl) HST.out
          subst hq
          have hcal : ca.length ≤ 1000 := by have := HB.out.ca; simp only at this; omega
          have h9 : SepI wr (Row 147 2 (.slice A1 (ca.length) c1) (ca.length) (cCl ca.reverse) * (pts (be + 1 + 1 + 1 + 1 + 1 + 1 + 1) (.cells #[Value.slice A1 ca.length c1, .slice A2 pn.length c2, .slice A3 dp.length c3, .slice A4 us.length c4, .slice A5 rv.length c5, .slice A6 rp.length c6, .slice A7 bf.length c7] 103 (0, 0)) * (pts be (.cells #[.slice none 0 0, .slice none 0 0, .slice none 0 0, .slice none 0 0, .slice none 0 0, .slice none 0 0, .slice none 0 0] 103 (0, 0)) * (Row 105 3 (.slice A2 pn.length c2) pn.length (c3s pn) * (Row 3 1 (.slice A3 dp.length c3) dp.length (ints dp) * (Row 26 1 (.slice A4 us.length c4) us.length (us.map (·.v)) * (stars (us.map uH) * (Row 112 2 (.slice A5 rv.length c5) rv.length (cPr rv) * (Row 3 1 (.slice A6 rp.length c6) rp.length (ints rp) * (Row 3 1 (.slice A7 bf.length c7) bf.length (ints bf) * (S))))))))))) := SepI.cast HS (by unfold RH; simp only [r4c, r4a]; ac_rfl)
          have HN : Hd (A1 = none → ca.length = 0 ∧ c1 = 0) := ⟨Row.none_nil h9⟩
          have HCL : Hd ((cCl ca.reverse).length = ca.length * 2) := ⟨by rw [cCl_len, List.length_reverse]⟩
          have HC2 : Hd (cCl ca.reverse ++ #[.bool false, .int .i64 (-1)].toList = cCl ((false, -1) :: ca).reverse) := ⟨by rw [List.reverse_cons, cCl_snoc]⟩
          have HAR : Hd (∀ v : Value, (#[Value.slice A1 ca.length c1, .slice A2 pn.length c2, .slice A3 dp.length c3, .slice A4 us.length c4, .slice A5 rv.length c5, .slice A6 rp.length c6, .slice A7 bf.length c7]).setIfInBounds 0 v = #[v, .slice A2 pn.length c2, .slice A3 dp.length c3, .slice A4 us.length c4, .slice A5 rv.length c5, .slice A6 rp.length c6, .slice A7 bf.length c7]) := ⟨fun v => rfl⟩
          clear HS
          go_upto_region 9 with fail
          refine wp_region_W 9 12 (by kernel_rfl) (by kernel_rfl) (fun w' => w'.cell? ⟨(be + 1 + 1 + 1 + 1 + 1 + 1 + 1), 0, none⟩ = some (.slice A1 ca.length c1) ∧ w'.cell? ⟨wr.heap.size, 0, none⟩ = some (.int .i64 1)) ⟨cb, cb⟩ (fun hHeld => ?_)
          refine tkp 1 hHeld ?_
          refine tkl 2 hHeld ?_
          refine tkp 4 hHeld ?_
          refine tkl 5 hHeld ?_
          refine tkp 6 hHeld ?_
          refine tkp 7 hHeld ?_
          refine wpAnyW_two false false (i := 0) (j := 8) (by kernel_rfl) rfl rfl (by kernel_rfl) (by kernel_rfl) (by rfl) (by rfl) (fun KK hKK => ?_) (fun KK hKK => ?_)
          · refine st_list rfl ?_
            go_wp2
            refine ⟨rfl, ?_⟩
            refine hKK.out _ _ (.inr ⟨cb, cb⟩) (fun hHeld => ?_)
            clear hKK KK
            try simp only [Act.put, List.setIfInBounds_toArray, List.set_cons_zero, List.set_cons_succ]
            refine wpAnyW_two false false (i := 3) (j := 8) (by kernel_rfl) rfl rfl (by kernel_rfl) (by kernel_rfl) (by rfl) (by rfl) (fun KK hKK => ?_) (fun KK hKK => ?_)
            · refine st_list rfl (ev_appendR (H := Row.lit0 (size := 2) (SepI.pick (A := pts (wr.heap.size + 1) (.cells #[] 147 (0, 0))) inferInstance inferInstance)) (v := .slice (some ⟨(wr.heap.size + 1), 0, none⟩) 0 0) rfl _ _ 100 rfl ?_ 16 _ Try.underlying100 info_cl rfl (by decide) (by decide) A1 ca.length c1 ?_ (news := cCl ca.reverse) HN.out HCL.out (cCl_one _) (by omega) ?_)
              rfl
              rfl
              rw [Nat.zero_add, List.nil_append]
              intro v3 w3 HS3 HE3
              obtain ⟨A1x, c1x, rfl, _, _⟩ := Row.form HS3
              refine ⟨rfl, ?_⟩
              refine hKK.out _ _ (.inr ⟨cb, cb⟩) (fun hHeld => ?_)
              clear hKK KK
              try simp only [Act.put, List.setIfInBounds_toArray, List.set_cons_zero, List.set_cons_succ]
              refine wpAnyW_one false (i := 8) (by kernel_rfl) rfl (by kernel_rfl) (by rfl) (fun KK hKK => ?_)
              refine st_list rfl ?_
              go_wp2
              refine ⟨rfl, ?_⟩
              refine hKK.out _ _ (.inr ⟨cb, cb⟩) (fun hHeld => ?_)
              clear hKK KK
              try simp only [Act.put, List.setIfInBounds_toArray, List.set_cons_zero, List.set_cons_succ]
              refine wpAnyW_done (by kernel_rfl) ?_
              refine ev_append (v := .slice A1x ca.length c1x) rfl _ _ 100 rfl ?_ 16 _ Try.underlying100 info_cl rfl (by decide) (by decide) (w3.heap.size) 1 1 ?_ rfl (by simp [Value.oneCell']) (by omega) ?_
              rfl
              rfl
              intro v6 w6 HS6 HE6
              replace HS6 := Row.as HS6 rfl HC2.out
              obtain ⟨A9, c9, rfl, _, _⟩ := Row.form HS6
              go_wp2
              go_roundw
              case rel => exact ⟨i + 1, ⟨(false, -1) :: ca, pn, dp, un, rv, rp, bf⟩, ⟨A9, c9, A2, c2, A3, c3, A4, c4, A5, c5, A6, c6, A7, c7, us⟩, by omega, by go_num, HU, HQ2, inferInstance, SepI.cast (Ent.sep (S := _) (T := pts (be + 1 + 1 + 1 + 1 + 1 + 1 + 1) (.cells ((#[Value.slice A1 ca.length c1, .slice A2 pn.length c2, .slice A3 dp.length c3, .slice A4 us.length c4, .slice A5 rv.length c5, .slice A6 rp.length c6, .slice A7 bf.length c7]).setIfInBounds 0 (.slice A9 (ca.length + 1) c9)) 103 (0, 0)) * (pts be (.cells #[.slice none 0 0, .slice none 0 0, .slice none 0 0, .slice none 0 0, .slice none 0 0, .slice none 0 0, .slice none 0 0] 103 (0, 0)) * (Row 147 2 (.slice A9 (ca.length + 1) c9) (ca.length + 1) (cCl ((false, -1) :: ca).reverse) * (Row 105 3 (.slice A2 pn.length c2) pn.length (c3s pn) * (Row 3 1 (.slice A3 dp.length c3) dp.length (ints dp) * (Row 26 1 (.slice A4 us.length c4) us.length (us.map (·.v)) * (stars (us.map uH) * (Row 112 2 (.slice A5 rv.length c5) rv.length (cPr rv) * (Row 3 1 (.slice A6 rp.length c6) rp.length (ints rp) * (Row 3 1 (.slice A7 bf.length c7) bf.length (ints bf) * (S))))))))))) inferInstance inferInstance) (by rw [HAR.out]; unfold RH; simp only [r4c, r4a, List.length_cons, star_assoc])⟩
              case measure => (simp [intOf]; try omega)
            · refine st_list rfl ?_
              go_wp2
              refine ⟨rfl, ?_⟩
              refine hKK.out _ _ (.inr ⟨cb, cb⟩) (fun hHeld => ?_)
              clear hKK KK
              try simp only [Act.put, List.setIfInBounds_toArray, List.set_cons_zero, List.set_cons_succ]
              refine wpAnyW_one false (i := 3) (by kernel_rfl) rfl (by kernel_rfl) (by rfl) (fun KK hKK => ?_)
              refine st_list rfl (ev_appendR (H := Row.lit0 (size := 2) (SepI.pick (A := pts (wr.heap.size + 1) (.cells #[] 147 (0, 0))) inferInstance inferInstance)) (v := .slice (some ⟨(wr.heap.size + 1), 0, none⟩) 0 0) rfl _ _ 100 rfl ?_ 16 _ Try.underlying100 info_cl rfl (by decide) (by decide) A1 ca.length c1 ?_ (news := cCl ca.reverse) HN.out HCL.out (cCl_one _) (by omega) ?_)
              rfl
              rfl
              rw [Nat.zero_add, List.nil_append]
              intro v3 w3 HS3 HE3
              obtain ⟨A1x, c1x, rfl, _, _⟩ := Row.form HS3
              refine ⟨rfl, ?_⟩
              refine hKK.out _ _ (.inr ⟨cb, cb⟩) (fun hHeld => ?_)
              clear hKK KK
              try simp only [Act.put, List.setIfInBounds_toArray, List.set_cons_zero, List.set_cons_succ]
              refine wpAnyW_done (by kernel_rfl) ?_
              refine ev_append (v := .slice A1x ca.length c1x) rfl _ _ 100 rfl ?_ 16 _ Try.underlying100 info_cl rfl (by decide) (by decide) ((wr.heap.size + 1 + 1)) 1 1 ?_ rfl (by simp [Value.oneCell']) (by omega) ?_
              rfl
              rfl
              intro v6 w6 HS6 HE6
              replace HS6 := Row.as HS6 rfl HC2.out
              obtain ⟨A9, c9, rfl, _, _⟩ := Row.form HS6
              go_wp2
              go_roundw
              case rel => exact ⟨i + 1, ⟨(false, -1) :: ca, pn, dp, un, rv, rp, bf⟩, ⟨A9, c9, A2, c2, A3, c3, A4, c4, A5, c5, A6, c6, A7, c7, us⟩, by omega, by go_num, HU, HQ2, inferInstance, SepI.cast (Ent.sep (S := _) (T := pts (be + 1 + 1 + 1 + 1 + 1 + 1 + 1) (.cells ((#[Value.slice A1 ca.length c1, .slice A2 pn.length c2, .slice A3 dp.length c3, .slice A4 us.length c4, .slice A5 rv.length c5, .slice A6 rp.length c6, .slice A7 bf.length c7]).setIfInBounds 0 (.slice A9 (ca.length + 1) c9)) 103 (0, 0)) * (pts be (.cells #[.slice none 0 0, .slice none 0 0, .slice none 0 0, .slice none 0 0, .slice none 0 0, .slice none 0 0, .slice none 0 0] 103 (0, 0)) * (Row 147 2 (.slice A9 (ca.length + 1) c9) (ca.length + 1) (cCl ((false, -1) :: ca).reverse) * (Row 105 3 (.slice A2 pn.length c2) pn.length (c3s pn) * (Row 3 1 (.slice A3 dp.length c3) dp.length (ints dp) * (Row 26 1 (.slice A4 us.length c4) us.length (us.map (·.v)) * (stars (us.map uH) * (Row 112 2 (.slice A5 rv.length c5) rv.length (cPr rv) * (Row 3 1 (.slice A6 rp.length c6) rp.length (ints rp) * (Row 3 1 (.slice A7 bf.length c7) bf.length (ints bf) * (S))))))))))) inferInstance inferInstance) (by rw [HAR.out]; unfold RH; simp only [r4c, r4a, List.length_cons, star_assoc])⟩
              case measure => (simp [intOf]; try omega)
          · refine st_list rfl ?_
            go_wp2
            refine ⟨rfl, ?_⟩
            refine hKK.out _ _ (.inr ⟨cb, cb⟩) (fun hHeld => ?_)
            clear hKK KK
            try simp only [Act.put, List.setIfInBounds_toArray, List.set_cons_zero, List.set_cons_succ]
            refine wpAnyW_one false (i := 0) (by kernel_rfl) rfl (by kernel_rfl) (by rfl) (fun KK hKK => ?_)
            refine st_list rfl ?_
            go_wp2
            refine ⟨rfl, ?_⟩
            refine hKK.out _ _ (.inr ⟨cb, cb⟩) (fun hHeld => ?_)
            clear hKK KK
            try simp only [Act.put, List.setIfInBounds_toArray, List.set_cons_zero, List.set_cons_succ]
            refine wpAnyW_one false (i := 3) (by kernel_rfl) rfl (by kernel_rfl) (by rfl) (fun KK hKK => ?_)
            refine st_list rfl (ev_appendR (H := Row.lit0 (size := 2) (SepI.pick (A := pts (wr.heap.size + 1 + 1) (.cells #[] 147 (0, 0))) inferInstance inferInstance)) (v := .slice (some ⟨(wr.heap.size + 1 + 1), 0, none⟩) 0 0) rfl _ _ 100 rfl ?_ 16 _ Try.underlying100 info_cl rfl (by decide) (by decide) A1 ca.length c1 ?_ (news := cCl ca.reverse) HN.out HCL.out (cCl_one _) (by omega) ?_)
            rfl
            rfl
            rw [Nat.zero_add, List.nil_append]
            intro v3 w3 HS3 HE3
            obtain ⟨A1x, c1x, rfl, _, _⟩ := Row.form HS3
            refine ⟨rfl, ?_⟩
            refine hKK.out _ _ (.inr ⟨cb, cb⟩) (fun hHeld => ?_)
            clear hKK KK
            try simp only [Act.put, List.setIfInBounds_toArray, List.set_cons_zero, List.set_cons_succ]
            refine wpAnyW_done (by kernel_rfl) ?_
            refine ev_append (v := .slice A1x ca.length c1x) rfl _ _ 100 rfl ?_ 16 _ Try.underlying100 info_cl rfl (by decide) (by decide) ((wr.heap.size + 1)) 1 1 ?_ rfl (by simp [Value.oneCell']) (by omega) ?_
            rfl
            rfl
            intro v6 w6 HS6 HE6
            replace HS6 := Row.as HS6 rfl HC2.out
            obtain ⟨A9, c9, rfl, _, _⟩ := Row.form HS6
            go_wp2
            go_roundw
            case rel => exact ⟨i + 1, ⟨(false, -1) :: ca, pn, dp, un, rv, rp, bf⟩, ⟨A9, c9, A2, c2, A3, c3, A4, c4, A5, c5, A6, c6, A7, c7, us⟩, by omega, by go_num, HU, HQ2, inferInstance, SepI.cast (Ent.sep (S := _) (T := pts (be + 1 + 1 + 1 + 1 + 1 + 1 + 1) (.cells ((#[Value.slice A1 ca.length c1, .slice A2 pn.length c2, .slice A3 dp.length c3, .slice A4 us.length c4, .slice A5 rv.length c5, .slice A6 rp.length c6, .slice A7 bf.length c7]).setIfInBounds 0 (.slice A9 (ca.length + 1) c9)) 103 (0, 0)) * (pts be (.cells #[.slice none 0 0, .slice none 0 0, .slice none 0 0, .slice none 0 0, .slice none 0 0, .slice none 0 0, .slice none 0 0] 103 (0, 0)) * (Row 147 2 (.slice A9 (ca.length + 1) c9) (ca.length + 1) (cCl ((false, -1) :: ca).reverse) * (Row 105 3 (.slice A2 pn.length c2) pn.length (c3s pn) * (Row 3 1 (.slice A3 dp.length c3) dp.length (ints dp) * (Row 26 1 (.slice A4 us.length c4) us.length (us.map (·.v)) * (stars (us.map uH) * (Row 112 2 (.slice A5 rv.length c5) rv.length (cPr rv) * (Row 3 1 (.slice A6 rp.length c6) rp.length (ints rp) * (Row 3 1 (.slice A7 bf.length c7) bf.length (ints bf) * (S))))))))))) inferInstance inferInstance) (by rw [HAR.out]; unfold RH; simp only [r4c, r4a, List.length_cons, star_assoc])⟩
            case measure => (simp [intOf]; try omega)
        · obtain hq : q1 = ⟨(true, -1) :: ca, pn, dp, un, rv, rp, bf⟩ := step4_push (Or.inr rfl) HST.out
          subst hq
          have hcal : ca.length ≤ 1000 := by have := HB.out.ca; simp only at this; omega
          have h9 : SepI wr (Row 147 2 (.slice A1 (ca.length) c1) (ca.length) (cCl ca.reverse) * (pts (be + 1 + 1 + 1 + 1 + 1 + 1 + 1) (.cells #[Value.slice A1 ca.length c1, .slice A2 pn.length c2, .slice A3 dp.length c3, .slice A4 us.length c4, .slice A5 rv.length c5, .slice A6 rp.length c6, .slice A7 bf.length c7] 103 (0, 0)) * (pts be (.cells #[.slice none 0 0, .slice none 0 0, .slice none 0 0, .slice none 0 0, .slice none 0 0, .slice none 0 0, .slice none 0 0] 103 (0, 0)) * (Row 105 3 (.slice A2 pn.length c2) pn.length (c3s pn) * (Row 3 1 (.slice A3 dp.length c3) dp.length (ints dp) * (Row 26 1 (.slice A4 us.length c4) us.length (us.map (·.v)) * (stars (us.map uH) * (Row 112 2 (.slice A5 rv.length c5) rv.length (cPr rv) * (Row 3 1 (.slice A6 rp.length c6) rp.length (ints rp) * (Row 3 1 (.slice A7 bf.length c7) bf.length (ints bf) * (S))))))))))) := SepI.cast HS (by unfold RH; simp only [r4c, r4a]; ac_rfl)
          have HN : Hd (A1 = none → ca.length = 0 ∧ c1 = 0) := ⟨Row.none_nil h9⟩
          have HCL : Hd ((cCl ca.reverse).length = ca.length * 2) := ⟨by rw [cCl_len, List.length_reverse]⟩
          have HC2 : Hd (cCl ca.reverse ++ #[.bool true, .int .i64 (-1)].toList = cCl ((true, -1) :: ca).reverse) := ⟨by rw [List.reverse_cons, cCl_snoc]⟩
          have HAR : Hd (∀ v : Value, (#[Value.slice A1 ca.length c1, .slice A2 pn.length c2, .slice A3 dp.length c3, .slice A4 us.length c4, .slice A5 rv.length c5, .slice A6 rp.length c6, .slice A7 bf.length c7]).setIfInBounds 0 v = #[v, .slice A2 pn.length c2, .slice A3 dp.length c3, .slice A4 us.length c4, .slice A5 rv.length c5, .slice A6 rp.length c6, .slice A7 bf.length c7]) := ⟨fun v => rfl⟩
          clear HS
          go_upto_region 9 with fail
          refine wp_region_W 9 12 (by kernel_rfl) (by kernel_rfl) (fun w' => w'.cell? ⟨(be + 1 + 1 + 1 + 1 + 1 + 1 + 1), 0, none⟩ = some (.slice A1 ca.length c1) ∧ w'.cell? ⟨wr.heap.size, 0, none⟩ = some (.int .i64 3)) ⟨cb, cb⟩ (fun hHeld => ?_)
          refine tkp 1 hHeld ?_
          refine tkl 2 hHeld ?_
          refine tkp 4 hHeld ?_
          refine tkl 5 hHeld ?_
          refine tkp 6 hHeld ?_
          refine tkp 7 hHeld ?_
          refine wpAnyW_two false false (i := 0) (j := 8) (by kernel_rfl) rfl rfl (by kernel_rfl) (by kernel_rfl) (by rfl) (by rfl) (fun KK hKK => ?_) (fun KK hKK => ?_)
          · refine st_list rfl ?_
            go_wp2
            refine ⟨rfl, ?_⟩
            refine hKK.out _ _ (.inr ⟨cb, cb⟩) (fun hHeld => ?_)
            clear hKK KK
            try simp only [Act.put, List.setIfInBounds_toArray, List.set_cons_zero, List.set_cons_succ]
            refine wpAnyW_two false false (i := 3) (j := 8) (by kernel_rfl) rfl rfl (by kernel_rfl) (by kernel_rfl) (by rfl) (by rfl) (fun KK hKK => ?_) (fun KK hKK => ?_)
            · refine st_list rfl (ev_appendR (H := Row.lit0 (size := 2) (SepI.pick (A := pts (wr.heap.size + 1) (.cells #[] 147 (0, 0))) inferInstance inferInstance)) (v := .slice (some ⟨(wr.heap.size + 1), 0, none⟩) 0 0) rfl _ _ 100 rfl ?_ 16 _ Try.underlying100 info_cl rfl (by decide) (by decide) A1 ca.length c1 ?_ (news := cCl ca.reverse) HN.out HCL.out (cCl_one _) (by omega) ?_)
              rfl
              rfl
              rw [Nat.zero_add, List.nil_append]
              intro v3 w3 HS3 HE3
              obtain ⟨A1x, c1x, rfl, _, _⟩ := Row.form HS3
              refine ⟨rfl, ?_⟩
              refine hKK.out _ _ (.inr ⟨cb, cb⟩) (fun hHeld => ?_)
              clear hKK KK
              try simp only [Act.put, List.setIfInBounds_toArray, List.set_cons_zero, List.set_cons_succ]
              refine wpAnyW_one false (i := 8) (by kernel_rfl) rfl (by kernel_rfl) (by rfl) (fun KK hKK => ?_)
              refine st_list rfl ?_
              go_wp2
              refine ⟨rfl, ?_⟩
              refine hKK.out _ _ (.inr ⟨cb, cb⟩) (fun hHeld => ?_)
              clear hKK KK
              try simp only [Act.put, List.setIfInBounds_toArray, List.set_cons_zero, List.set_cons_succ]
              refine wpAnyW_done (by kernel_rfl) ?_
              refine ev_append (v := .slice A1x ca.length c1x) rfl _ _ 100 rfl ?_ 16 _ Try.underlying100 info_cl rfl (by decide) (by decide) (w3.heap.size) 1 1 ?_ rfl (by simp [Value.oneCell']) (by omega) ?_
              rfl
              rfl
              intro v6 w6 HS6 HE6
              replace HS6 := Row.as HS6 rfl HC2.out
              obtain ⟨A9, c9, rfl, _, _⟩ := Row.form HS6
              go_wp2
              go_roundw
              case rel => exact ⟨i + 1, ⟨(true, -1) :: ca, pn, dp, un, rv, rp, bf⟩, ⟨A9, c9, A2, c2, A3, c3, A4, c4, A5, c5, A6, c6, A7, c7, us⟩, by omega, by go_num, HU, HQ2, inferInstance, SepI.cast (Ent.sep (S := _) (T := pts (be + 1 + 1 + 1 + 1 + 1 + 1 + 1) (.cells ((#[Value.slice A1 ca.length c1, .slice A2 pn.length c2, .slice A3 dp.length c3, .slice A4 us.length c4, .slice A5 rv.length c5, .slice A6 rp.length c6, .slice A7 bf.length c7]).setIfInBounds 0 (.slice A9 (ca.length + 1) c9)) 103 (0, 0)) * (pts be (.cells #[.slice none 0 0, .slice none 0 0, .slice none 0 0, .slice none 0 0, .slice none 0 0, .slice none 0 0, .slice none 0 0] 103 (0, 0)) * (Row 147 2 (.slice A9 (ca.length + 1) c9) (ca.length + 1) (cCl ((true, -1) :: ca).reverse) * (Row 105 3 (.slice A2 pn.length c2) pn.length (c3s pn) * (Row 3 1 (.slice A3 dp.length c3) dp.length (ints dp) * (Row 26 1 (.slice A4 us.length c4) us.length (us.map (·.v)) * (stars (us.map uH) * (Row 112 2 (.slice A5 rv.length c5) rv.length (cPr rv) * (Row 3 1 (.slice A6 rp.length c6) rp.length (ints rp) * (Row 3 1 (.slice A7 bf.length c7) bf.length (ints bf) * (S))))))))))) inferInstance inferInstance) (by rw [HAR.out]; unfold RH; simp only [r4c, r4a, List.length_cons, star_assoc])⟩
              case measure => (simp [intOf]; try omega)
            · refine st_list rfl ?_
              go_wp2
              refine ⟨rfl, ?_⟩
              refine hKK.out _ _ (.inr ⟨cb, cb⟩) (fun hHeld => ?_)
              clear hKK KK
              try simp only [Act.put, List.setIfInBounds_toArray, List.set_cons_zero, List.set_cons_succ]
              refine wpAnyW_one false (i := 3) (by kernel_rfl) rfl (by kernel_rfl) (by rfl) (fun KK hKK => ?_)
              refine st_list rfl (ev_appendR (H := Row.lit0 (size := 2) (SepI.pick (A := pts (wr.heap.size + 1) (.cells #[] 147 (0, 0))) inferInstance inferInstance)) (v := .slice (some ⟨(wr.heap.size + 1), 0, none⟩) 0 0) rfl _ _ 100 rfl ?_ 16 _ Try.underlying100 info_cl rfl (by decide) (by decide) A1 ca.length c1 ?_ (news := cCl ca.reverse) HN.out HCL.out (cCl_one _) (by omega) ?_)
              rfl
              rfl
              rw [Nat.zero_add, List.nil_append]
              intro v3 w3 HS3 HE3
              obtain ⟨A1x, c1x, rfl, _, _⟩ := Row.form HS3
              refine ⟨rfl, ?_⟩
              refine hKK.out _ _ (.inr ⟨cb, cb⟩) (fun hHeld => ?_)
              clear hKK KK
              try simp only [Act.put, List.setIfInBounds_toArray, List.set_cons_zero, List.set_cons_succ]
              refine wpAnyW_done (by kernel_rfl) ?_
              refine ev_append (v := .slice A1x ca.length c1x) rfl _ _ 100 rfl ?_ 16 _ Try.underlying100 info_cl rfl (by decide) (by decide) ((wr.heap.size + 1 + 1)) 1 1 ?_ rfl (by simp [Value.oneCell']) (by omega) ?_
              rfl
              rfl
              intro v6 w6 HS6 HE6
              replace HS6 := Row.as HS6 rfl HC2.out
              obtain ⟨A9, c9, rfl, _, _⟩ := Row.form HS6
              go_wp2
              go_roundw
              case rel => exact ⟨i + 1, ⟨(true, -1) :: ca, pn, dp, un, rv, rp, bf⟩, ⟨A9, c9, A2, c2, A3, c3, A4, c4, A5, c5, A6, c6, A7, c7, us⟩, by omega, by go_num, HU, HQ2, inferInstance, SepI.cast (Ent.sep (S := _) (T := pts (be + 1 + 1 + 1 + 1 + 1 + 1 + 1) (.cells ((#[Value.slice A1 ca.length c1, .slice A2 pn.length c2, .slice A3 dp.length c3, .slice A4 us.length c4, .slice A5 rv.length c5, .slice A6 rp.length c6, .slice A7 bf.length c7]).setIfInBounds 0 (.slice A9 (ca.length + 1) c9)) 103 (0, 0)) * (pts be (.cells #[.slice none 0 0, .slice none 0 0, .slice none 0 0, .slice none 0 0, .slice none 0 0, .slice none 0 0, .slice none 0 0] 103 (0, 0)) * (Row 147 2 (.slice A9 (ca.length + 1) c9) (ca.length + 1) (cCl ((true, -1) :: ca).reverse) * (Row 105 3 (.slice A2 pn.length c2) pn.length (c3s pn) * (Row 3 1 (.slice A3 dp.length c3) dp.length (ints dp) * (Row 26 1 (.slice A4 us.length c4) us.length (us.map (·.v)) * (stars (us.map uH) * (Row 112 2 (.slice A5 rv.length c5) rv.length (cPr rv) * (Row 3 1 (.slice A6 rp.length c6) rp.length (ints rp) * (Row 3 1 (.slice A7 bf.length c7) bf.length (ints bf) * (S))))))))))) inferInstance inferInstance) (by rw [HAR.out]; unfold RH; simp only [r4c, r4a, List.length_cons, star_assoc])⟩
              case measure => (simp [intOf]; try omega)
          · refine st_list rfl ?_
            go_wp2
            refine ⟨rfl, ?_⟩
            refine hKK.out _ _ (.inr ⟨cb, cb⟩) (fun hHeld => ?_)
            clear hKK KK
            try simp only [Act.put, List.setIfInBounds_toArray, List.set_cons_zero, List.set_cons_succ]
            refine wpAnyW_one false (i := 0) (by kernel_rfl) rfl (by kernel_rfl) (by rfl) (fun KK hKK => ?_)
            refine st_list rfl ?_
            go_wp2
            refine ⟨rfl, ?_⟩
            refine hKK.out _ _ (.inr ⟨cb, cb⟩) (fun hHeld => ?_)
            clear hKK KK
            try simp only [Act.put, List.setIfInBounds_toArray, List.set_cons_zero, List.set_cons_succ]
            refine wpAnyW_one false (i := 3) (by kernel_rfl) rfl (by kernel_rfl) (by rfl) (fun KK hKK => ?_)
            refine st_list rfl (ev_appendR (H := Row.lit0 (size := 2) (SepI.pick (A := pts (wr.heap.size + 1 + 1) (.cells #[] 147 (0, 0))) inferInstance inferInstance)) (v := .slice (some ⟨(wr.heap.size + 1 + 1), 0, none⟩) 0 0) rfl _ _ 100 rfl ?_ 16 _ Try.underlying100 info_cl rfl (by decide) (by decide) A1 ca.length c1 ?_ (news := cCl ca.reverse) HN.out HCL.out (cCl_one _) (by omega) ?_)
            rfl
            rfl
            rw [Nat.zero_add, List.nil_append]
            intro v3 w3 HS3 HE3
            obtain ⟨A1x, c1x, rfl, _, _⟩ := Row.form HS3
            refine ⟨rfl, ?_⟩
            refine hKK.out _ _ (.inr ⟨cb, cb⟩) (fun hHeld => ?_)
            clear hKK KK
            try simp only [Act.put, List.setIfInBounds_toArray, List.set_cons_zero, List.set_cons_succ]
            refine wpAnyW_done (by kernel_rfl) ?_
            refine ev_append (v := .slice A1x ca.length c1x) rfl _ _ 100 rfl ?_ 16 _ Try.underlying100 info_cl rfl (by decide) (by decide) ((wr.heap.size + 1)) 1 1 ?_ rfl (by simp [Value.oneCell']) (by omega) ?_
            rfl
            rfl
            intro v6 w6 HS6 HE6
            replace HS6 := Row.as HS6 rfl HC2.out
            obtain ⟨A9, c9, rfl, _, _⟩ := Row.form HS6
            go_wp2
            go_roundw
            case rel => exact ⟨i + 1, ⟨(true, -1) :: ca, pn, dp, un, rv, rp, bf⟩, ⟨A9, c9, A2, c2, A3, c3, A4, c4, A5, c5, A6, c6, A7, c7, us⟩, by omega, by go_num, HU, HQ2, inferInstance, SepI.cast (Ent.sep (S := _) (T := pts (be + 1 + 1 + 1 + 1 + 1 + 1 + 1) (.cells ((#[Value.slice A1 ca.length c1, .slice A2 pn.length c2, .slice A3 dp.length c3, .slice A4 us.length c4, .slice A5 rv.length c5, .slice A6 rp.length c6, .slice A7 bf.length c7]).setIfInBounds 0 (.slice A9 (ca.length + 1) c9)) 103 (0, 0)) * (pts be (.cells #[.slice none 0 0, .slice none 0 0, .slice none 0 0, .slice none 0 0, .slice none 0 0, .slice none 0 0, .slice none 0 0] 103 (0, 0)) * (Row 147 2 (.slice A9 (ca.length + 1) c9) (ca.length + 1) (cCl ((true, -1) :: ca).reverse) * (Row 105 3 (.slice A2 pn.length c2) pn.length (c3s pn) * (Row 3 1 (.slice A3 dp.length c3) dp.length (ints dp) * (Row 26 1 (.slice A4 us.length c4) us.length (us.map (·.v)) * (stars (us.map uH) * (Row 112 2 (.slice A5 rv.length c5) rv.length (cPr rv) * (Row 3 1 (.slice A6 rp.length c6) rp.length (ints rp) * (Row 3 1 (.slice A7 bf.length c7) bf.length (ints bf) * (S))))))))))) inferInstance inferInstance) (by rw [HAR.out]; unfold RH; simp only [r4c, r4a, List.length_cons, star_assoc])⟩
            case measure => (simp [intOf]; try omega)
      have n1 : (k == 1) = false := by simp; omega
      have n3 : (k == 3) = false := by simp; omega
      have n5 : (k == 5) = false := by simp; omega
      have n6 : (k == 6) = false := by simp; omega
      have n7 : (k == 7) = false := by simp; omega
      have n8 : (k == 8) = false := by simp; omega
      have n9 : (k == 9) = false := by simp; omega
      have hst := HST.out
      unfold step4 at hst
      rw [if_neg k13, if_neg k5, if_neg k6, if_neg k7, if_neg k8, if_neg k9] at hst
      injection hst with hst
      subst hst
      clear k5 k6 k7 k8 k9 k13
      go_wp2
      go_roundw
      case rel => exact ⟨i + 1, ⟨ca, pn, dp, un, rv, rp, bf⟩, ⟨A1, c1, A2, c2, A3, c3, A4, c4, A5, c5, A6, c6, A7, c7, us⟩, by omega, by go_num, HU, HQ2, inferInstance, Ent.sep (S := _) (T := pts (be + 1 + 1 + 1 + 1 + 1 + 1 + 1) (.cells #[Value.slice A1 ca.length c1, .slice A2 pn.length c2, .slice A3 dp.length c3, .slice A4 us.length c4, .slice A5 rv.length c5, .slice A6 rp.length c6, .slice A7 bf.length c7] 103 (0, 0)) * (pts be (.cells #[.slice none 0 0, .slice none 0 0, .slice none 0 0, .slice none 0 0, .slice none 0 0, .slice none 0 0, .slice none 0 0] 103 (0, 0)) * (RH ⟨A1, c1, A2, c2, A3, c3, A4, c4, A5, c5, A6, c6, A7, c7, us⟩ ⟨ca, pn, dp, un, rv, rp, bf⟩ * S))) inferInstance inferInstance⟩
      case measure => (simp [intOf]; try omega)
    · have : i = m := by omega
      subst this
      obtain ⟨A1, c1, A2, c2, A3, c3, A4, c4, A5, c5, A6, c6, A7, c7, us⟩ := x
      obtain ⟨ca, pn, dp, un, rv, rp, bf⟩ := q
      have hq : ⟨ca, pn, dp, un, rv, rp, bf⟩ = q0 := by
        have h1 := HQ.out
        rw [HM.out, List.take_length, HR4.out] at h1
        injection h1 with h1
        exact h1.symm
      subst hq
      go_wp2_with (refine ev_store rfl 103 _ _ rfl (be) #[Value.slice A1 ca.length c1, .slice A2 pn.length c2, .slice A3 dp.length c3, .slice A4 us.length c4, .slice A5 rv.length c5, .slice A6 rp.length c6, .slice A7 bf.length c7] rfl rfl info_r4 (by rfl) (by simp [Value.oneCell']) ?_; intro w9 HS9 HE9)
      refine bodyPost_ret (v := .agg #[Value.slice A1 ca.length c1, .slice A2 pn.length c2, .slice A3 dp.length c3, .slice A4 us.length c4, .slice A5 rv.length c5, .slice A6 rp.length c6, .slice A7 bf.length c7]) (by simp [results, Try.results99, go_sem]) rfl ?_
      exact ⟨⟨A1, c1, A2, c2, A3, c3, A4, c4, A5, c5, A6, c6, A7, c7, us⟩, HU.out, rfl, Post.mk' (SepI.cast (Ent.sep (S := _) (T := RH ⟨A1, c1, A2, c2, A3, c3, A4, c4, A5, c5, A6, c6, A7, c7, us⟩ ⟨ca, pn, dp, un, rv, rp, bf⟩ * S) inferInstance inferInstance) (R4H_RH _ _ _).symm) inferInstance⟩
end Go.Proofs.Ytobikkdnalnllaa
