/- What a trace tells of its calls, by the reference. Conditions: lengths within bounds. -/
import Derived.Test.YtobikkdnalnllaaQc
import Derived.Test.YtobikkdnalnllaaQa
import Derived.Test.YtobikkdnalnllaaBd
namespace Go.Proofs.Ytobikkdnalnllaa
open Go.RowKit SL
attribute [local go_sem] cell_blk frozen_blk lt_blk cell_at frozen_row lt_row
set_option linter.unusedVariables false
set_option linter.unusedSimpArgs false

theorem read3_none : ∀ (l : List Ev), l.foldl (fun o e => o.bind (step3 · e)) none = none
  | [] => rfl
  | e :: l => by rw [List.foldl_cons]; exact read3_none l
theorem read3_take {t : List Ev} {r : R3} (h : read3 t = some r) (i : Nat) : ∃ q, read3 (t.take i) = some q := by
  have e : read3 t = (t.drop i).foldl (fun o e => o.bind (step3 · e)) (read3 (t.take i)) := by
    unfold read3
    rw [← List.foldl_append, List.take_append_drop]
  cases hq : read3 (t.take i) with
  | some q => exact ⟨q, rfl⟩
  | none => rw [hq, read3_none, h] at e; cases e
theorem read3_next {t : List Ev} {i : Nat} {e : Ev} (h : t[i]? = some e) : read3 (t.take (i + 1)) = (read3 (t.take i)).bind (step3 · e) := by rw [take_succ_eq h, read3_snoc]
/-- The lengths of what is read. -/
theorem step3_len {r r' : R3} {e : Ev} (h : step3 r e = some r') : r'.owners.length = r.owners.length + 1 ∧ r'.calls.length ≤ r.calls.length + 1 ∧ r.calls.length ≤ r'.calls.length := by
  have ho : ({ open3 r e with owners := (open3 r e).owners ++ [(open3 r e).now] } : R3).owners.length = r.owners.length + 1 := by
    show ((open3 r e).owners ++ [_]).length = _
    rw [List.length_append]
    unfold open3
    split <;> rfl
  have hc : ({ open3 r e with owners := (open3 r e).owners ++ [(open3 r e).now] } : R3).calls.length ≤ r.calls.length + 1 ∧ r.calls.length ≤ ({ open3 r e with owners := (open3 r e).owners ++ [(open3 r e).now] } : R3).calls.length := by
    show (open3 r e).calls.length ≤ _ ∧ _ ≤ (open3 r e).calls.length
    unfold open3
    split
    · simp
    · exact ⟨Nat.le_succ _, Nat.le_refl _⟩
  unfold step3 shut3 at h
  split at h
  · injection h with h; rw [← h]; exact ⟨ho, hc⟩
  · split at h
    · cases h
    · split at h
      · cases h
      · injection h with h
        rw [← h]
        refine ⟨ho, ?_⟩
        show (List.set _ _ _).length ≤ _ ∧ _ ≤ (List.set _ _ _).length
        rw [List.length_set]; exact hc
theorem read3_len {t : List Ev} : ∀ {i : Nat}, i ≤ t.length → ∀ {q : R3}, read3 (t.take i) = some q → q.owners.length = i ∧ q.calls.length ≤ i
  | 0, _, q, h => by
    rw [List.take_zero] at h
    injection h with h
    rw [← h]; exact ⟨rfl, Nat.le_refl _⟩
  | i + 1, hi, q, h => by
    obtain ⟨e, he⟩ := get_ex (xs := t) (k := i) (by omega)
    rw [read3_next he] at h
    cases hq : read3 (t.take i) with
    | none => rw [hq] at h; cases h
    | some p =>
      rw [hq, Option.bind_some] at h
      have h1 := read3_len (Nat.le_of_succ_le hi) hq
      have h2 := step3_len h
      omega
theorem step3_open {cs : List C5} {os : List Int} {now k f v : Int} (h : k = 1 ∨ k = 3) : step3 ⟨cs, os, now⟩ ⟨k, f, v⟩ = some ⟨cs ++ [⟨f, now, k == 3, 4, 0⟩], os ++ [(cs.length : Int)], cs.length⟩ := by
  have h2 : end3 k = 0 := by unfold end3; rw [if_neg (by omega), if_neg (by omega), if_neg (by omega)]
  unfold step3 shut3 open3
  simp only
  rw [if_pos h2, if_pos h]
theorem step3_none {cs : List C5} {os : List Int} {now k f v : Int} (h : ¬ (k = 1 ∨ k = 3)) (h2 : end3 k = 0) : step3 ⟨cs, os, now⟩ ⟨k, f, v⟩ = some ⟨cs, os ++ [now], now⟩ := by
  unfold step3 shut3 open3
  simp only
  rw [if_pos h2, if_neg h]
theorem step3_shut {cs : List C5} {os : List Int} {now k f v : Int} (h : ¬ (k = 1 ∨ k = 3)) (h2 : end3 k ≠ 0) {r : R3} (hr : step3 ⟨cs, os, now⟩ ⟨k, f, v⟩ = some r) :
    ∃ (j : Nat) (c : C5), now = j ∧ cs[j]? = some c ∧ r = ⟨cs.set j ⟨c.fn, c.up, c.df, end3 k, v⟩, os ++ [now], c.up⟩ := by
  unfold step3 shut3 open3 at hr
  simp only at hr
  rw [if_neg h2, if_neg h] at hr
  simp only at hr
  split at hr
  · cases hr
  · rename_i hn
    split at hr
    · cases hr
    · rename_i c hc
      injection hr with hr
      exact ⟨now.toNat, c, by omega, hc, hr.symm⟩
theorem cC5s_set {l : List C5} {k : Nat} {x y : C5} {j : Nat} {v : Value} (h : l[k]? = some x) (hj : j < 5) (he : cC5 y = (cC5 x).set j v) : (cC5s l).set (k * 5 + j) v = cC5s (l.set k y) := flat_set (f := cC5) (fun _ => rfl) h hj he
theorem end3_no {k : Int} (h1 : k ≠ 7) (h2 : k ≠ 8) (h3 : k ≠ 9) : end3 k = 0 := by
  unfold end3; rw [if_neg h1, if_neg h2, if_neg h3]
theorem end3_le (k : Int) : 0 ≤ end3 k ∧ end3 k ≤ 3 := by
  unfold end3
  split
  · omega
  · split
    · omega
    · split <;> omega
set_option maxRecDepth 100000 in
set_option maxHeartbeats 1000000 in
theorem spec_l3End (w : World) (k : Int) : Calls Try.prog 98 #[.int .i64 k] w fun e w' => e = .returned (.int .i64 (end3 k)) ∧ w' = w := by
  by_cases h7 : k = 7
  · subst h7
    go_enter Try.func98, Try.ntmps98
    go_wp2
    go_ret
    exact ⟨rfl, rfl⟩
  by_cases h8 : k = 8
  · subst h8
    go_enter Try.func98, Try.ntmps98
    go_wp2
    go_ret
    exact ⟨rfl, rfl⟩
  by_cases h9 : k = 9
  · subst h9
    go_enter Try.func98, Try.ntmps98
    go_wp2
    go_ret
    exact ⟨rfl, rfl⟩
  rw [end3_no h7 h8 h9]
  have e7 : (k == 7) = false := by simpa using h7
  have e8 : (k == 8) = false := by simpa using h8
  have e9 : (k == 9) = false := by simpa using h9
  clear h7 h8 h9
  go_enter Try.func98, Try.ntmps98
  go_wp2
  go_ret
  exact ⟨rfl, rfl⟩
/-- What l3Read hands back. -/
def ReadP (S : HP) (cs : List C5) (os : List Int) (w : World) (e : Ending) (w' : World) : Prop := ∃ Ac cc Ao oc, e = .returned (.agg #[.slice Ac cs.length cc, .slice Ao os.length oc]) ∧
  Post w (Row 85 5 (.slice Ac cs.length cc) cs.length (cC5s cs) * (Row 3 1 (.slice Ao os.length oc) os.length (ints os) * S)) w'
/-- All that l3Read owns. -/
def Read3H (be : Nat) (cs : List C5) (os : List Int) (Ac Ao : Option Addr) (cc oc : Nat) (S : HP) : HP :=
  pts (be + 3) (.cells #[.slice Ac cs.length cc, .slice Ao os.length oc] 71 (0, 0)) * (Row 85 5 (.slice Ac cs.length cc) cs.length (cC5s cs) * (Row 3 1 (.slice Ao os.length oc) os.length (ints os) * (pts be (.cells #[.slice none 0 0, .slice none 0 0] 71 (0, 0)) * S)))
set_option maxRecDepth 100000 in
set_option maxHeartbeats 16000000 in
theorem spec_l3Read (S : HP) (w : World) [H : SepI w S] (A : Option Addr) (c : Nat) (t : List Ev) [r : Rd S A (cEvs t)] (ht : t.length ≤ 1000) (cs : List C5) (os : List Int) (now : Int) (hr3 : read3 t = some ⟨cs, os, now⟩) :
    Calls Try.prog 62 #[.slice A t.length c] w (ReadP S cs os w) := by
  obtain ⟨m, hm⟩ : ∃ m, m = t.length := ⟨_, rfl⟩
  have HM := Hd.mk hm
  have HR3 := Hd.mk hr3
  rw [← hm] at ht ⊢
  clear hm hr3
  obtain ⟨be, hbe⟩ : ∃ be, be = w.heap.size := ⟨_, rfl⟩
  have HBE := Hd.mk hbe
  have h1 : SepI (w.alloc (.cells #[.slice none 0 0, .slice none 0 0] 71 (0, 0)) |>.alloc (.cells #[] 85 (0, 0))) (Row 85 5 (.slice (some ⟨w.heap.size + 1, 0, none⟩) 0 0) 0 [] * (pts w.heap.size (.cells #[.slice none 0 0, .slice none 0 0] 71 (0, 0)) * S)) :=
    Row.lit0 (SepI.i_alloc _ (.cells #[] 85 (0, 0)) _ _)
  have h2 : SepI (w.alloc (.cells #[.slice none 0 0, .slice none 0 0] 71 (0, 0)) |>.alloc (.cells #[] 85 (0, 0)) |>.alloc (.cells #[] 3 (0, 0))) (Row 3 1 (.slice (some ⟨w.heap.size + 1 + 1, 0, none⟩) 0 0) 0 [] * (Row 85 5 (.slice (some ⟨w.heap.size + 1, 0, none⟩) 0 0) 0 [] * (pts w.heap.size (.cells #[.slice none 0 0, .slice none 0 0] 71 (0, 0)) * S))) :=
    Row.lit0 (SepI.i_alloc _ (.cells #[] 3 (0, 0)) _ _)
  clear h1 hbe
  go_enter Try.func62, Try.ntmps62
  go_wp2
  rw [← HBE.out] at h2 ⊢
  go_loopw [4, 5] (fun v4 v5 wr => ∃ (i : Nat) (cs : List C5) (os : List Int) (now : Int) (Ac Ao : Option Addr) (cc oc : Nat), i ≤ m ∧ v5 = .int .i64 i ∧ v4 = .int .i64 now ∧ os.length ≤ 1000 ∧ cs.length ≤ i ∧ Hd (read3 (t.take i) = some ⟨cs, os, now⟩) ∧ ExtI w wr ∧ SepI wr (Read3H be cs os Ac Ao cc oc S)) (fun _ v _ => m - (intOf v).toNat)
  case atStart => exact ⟨0, [], [], -1, some ⟨be + 1, 0, none⟩, some ⟨be + 2, 0, none⟩, 0, 0, Nat.zero_le _, rfl, rfl, Nat.zero_le _, Nat.zero_le _, ⟨rfl⟩, inferInstance, SepI.cast (Ent.sep (S := _) (T := pts (w.heap.size + 1 + 1 + 1) (.cells #[.slice (some ⟨be + 1, 0, none⟩) 0 0, .slice (some ⟨be + 1 + 1, 0, none⟩) 0 0] 71 (0, 0)) * (Row 85 5 (.slice (some ⟨be + 1, 0, none⟩) 0 0) 0 [] * (Row 3 1 (.slice (some ⟨be + 1 + 1, 0, none⟩) 0 0) 0 [] * (pts be (.cells #[.slice none 0 0, .slice none 0 0] 71 (0, 0)) * S)))) inferInstance inferInstance) (by rw [← HBE.out]; rfl)⟩
  case round =>
    obtain ⟨i, cs0, os0, nw, Ac, Ao, cc, oc, hi, rfl, rfl, hol, hcl, HQ, HX, HS⟩ := hrel
    clear h2
    by_cases hlt : i < m
    · obtain ⟨⟨k, f, v⟩, hs1⟩ := get_ex (xs := t) (k := i) (by rw [← HM.out]; exact hlt)
      obtain ⟨bp, op, rfl⟩ := r.addr H (j := i) (by rw [cEvs_len, ← HM.out]; omega)
      have e1 := r.cell (cEvs_get hs1).1
      have e2 := r.cell (cEvs_get hs1).2.1
      have e3 := r.cell (cEvs_get hs1).2.2
      simp only at e1 e2 e3
      have HQ1 : Hd (read3 (t.take (i + 1)) = step3 ⟨cs0, os0, nw⟩ ⟨k, f, v⟩) := ⟨by rw [read3_next hs1, HQ.out]; rfl⟩
      unfold Read3H at HS
      clear hs1
      by_cases ho : k = 1 ∨ k = 3
      · obtain ⟨cs1, hcs1⟩ : ∃ cs1, cs0 ++ [(⟨f, nw, k == 3, 4, 0⟩ : C5)] = cs1 := ⟨_, rfl⟩
        obtain ⟨os1, hos1⟩ : ∃ os1, os0 ++ [(cs0.length : Int)] = os1 := ⟨_, rfl⟩
        have HQ2 : Hd (read3 (t.take (i + 1)) = some ⟨cs1, os1, cs0.length⟩) := ⟨by rw [← hcs1, ← hos1]; exact HQ1.out.trans (step3_open ho)⟩
        have HLC : Hd (cs1.length = cs0.length + 1) := ⟨by rw [← hcs1]; simp⟩
        have HLO : Hd (os1.length = os0.length + 1) := ⟨by rw [← hos1]; simp⟩
        have hol1 : os0.length + 1 ≤ 1000 := by have := (read3_len (by have := HM.out; omega) HQ2.out).1; rw [HLO.out] at this; omega
        have HCC : Hd (cC5s cs0 ++ #[.int .i64 f, .int .i64 nw, .bool (k == 3), .int .i64 4, .int .i64 0].toList = cC5s cs1) := ⟨by rw [← hcs1, cC5s_append]; rfl⟩
        have HOO : Hd (ints os0 ++ #[.int .i64 (cs0.length : Int)].toList = ints os1) := ⟨by rw [← hos1, ints_append]; rfl⟩
        have HE0 : Hd (end3 k = 0) := ⟨by unfold end3; rw [if_neg (by omega), if_neg (by omega), if_neg (by omega)]⟩
        clear hcs1 hos1
        clear HQ1 HQ
        rcases ho with rfl | rfl
        all_goals
          go_wp2_with (first | (go_at_call 98; refine (spec_l3End _ _).mono ?_; rintro e w6 ⟨rfl, rfl⟩; rw [HE0.out]) | (at_builtin; go_must (first | (refine ev_append (v := .slice Ac cs0.length cc) rfl _ _ 69 rfl rfl 40 _ Try.underlying69 info_c5 rfl (by decide) (by decide) (wr.heap.size + 1) 1 1 rfl rfl (by simp [Value.oneCell']) (by omega) ?_; intro v1 w4 HS4 HE4; replace HS4 := Row.as HS4 rfl HCC.out; obtain ⟨A4, c4, rfl, _, _⟩ := Row.form HS4) | (refine ev_append (v := .slice Ao os0.length oc) rfl _ _ 26 rfl rfl 8 _ Try.underlying26 info_int rfl (by decide) (by decide) (w4.heap.size) 1 1 rfl rfl (by simp [Value.oneCell']) (by omega) ?_; intro v2 w5 HS5 HE5; replace HS5 := Row.as HS5 rfl HOO.out; obtain ⟨A5, c5, rfl, _, _⟩ := Row.form HS5))))
          go_roundw
          case rel =>
            refine ⟨i + 1, cs1, os1, cs0.length, A4, A5, c4, c5, by omega, by go_num, by go_num, by rw [HLO.out]; exact hol1, by rw [HLC.out]; omega, HQ2, inferInstance, ?_⟩
            refine SepI.cast (Ent.sep (S := _) (T := pts (be + 3) (.cells ((#[Value.slice Ac cs0.length cc, Value.slice Ao os0.length oc].setIfInBounds 0 (Value.slice A4 (cs0.length + 1) c4)).setIfInBounds 1 (Value.slice A5 (os0.length + 1) c5)) 71 (0, 0)) * (Row 85 5 (.slice A4 (cs0.length + 1) c4) (cs0.length + 1) (cC5s cs1) * (Row 3 1 (.slice A5 (os0.length + 1) c5) (os0.length + 1) (ints os1) * (pts be (.cells #[.slice none 0 0, .slice none 0 0] 71 (0, 0)) * S)))) inferInstance inferInstance) ?_
            unfold Read3H
            rw [HLC.out, HLO.out]; rfl
          case measure => (simp [intOf]; try omega)
      · have q1 : (k == 1) = false := by simp; omega
        have q3 : (k == 3) = false := by simp; omega
        obtain ⟨os1, hos1⟩ : ∃ os1, os0 ++ [nw] = os1 := ⟨_, rfl⟩
        have HOO : Hd (ints os0 ++ #[.int .i64 nw].toList = ints os1) := ⟨by rw [← hos1, ints_append]; rfl⟩
        have HLO : Hd (os1.length = os0.length + 1) := ⟨by rw [← hos1]; simp⟩
        obtain ⟨en, hen⟩ : ∃ en, end3 k = en := ⟨_, rfl⟩
        have HE0 := Hd.mk hen
        have hnot : ¬ (k = 1 ∨ k = 3) := ho
        have HNOT := Hd.mk hnot
        clear ho hnot
        by_cases h0 : en = 0
        · subst h0
          have HQ2 : Hd (read3 (t.take (i + 1)) = some ⟨cs0, os1, nw⟩) := ⟨by rw [← hos1]; exact HQ1.out.trans (step3_none HNOT.out hen)⟩
          have hol1 : os0.length + 1 ≤ 1000 := by have := (read3_len (by have := HM.out; omega) HQ2.out).1; rw [HLO.out] at this; omega
          clear hos1 hen HQ1 HQ
          go_wp2_with (first | (go_at_call 98; refine (spec_l3End _ _).mono ?_; rintro e w6 ⟨rfl, rfl⟩; rw [HE0.out]) | (at_builtin; go_must ((refine ev_append (v := .slice Ao os0.length oc) rfl _ _ 26 rfl rfl 8 _ Try.underlying26 info_int rfl (by decide) (by decide) (wr.heap.size + 1) 1 1 rfl rfl (by simp [Value.oneCell']) (by omega) ?_; intro v2 w5 HS5 HE5; replace HS5 := Row.as HS5 rfl HOO.out; obtain ⟨A5, c5, rfl, _, _⟩ := Row.form HS5))))
          go_roundw
          case rel =>
            refine ⟨i + 1, cs0, os1, nw, Ac, A5, cc, c5, by omega, by go_num, rfl, by rw [HLO.out]; exact hol1, by omega, HQ2, inferInstance, ?_⟩
            refine SepI.cast (Ent.sep (S := _) (T := pts (be + 3) (.cells (#[Value.slice Ac cs0.length cc, Value.slice Ao os0.length oc].setIfInBounds 1 (Value.slice A5 (os0.length + 1) c5)) 71 (0, 0)) * (Row 85 5 (.slice Ac cs0.length cc) cs0.length (cC5s cs0) * (Row 3 1 (.slice A5 (os0.length + 1) c5) (os0.length + 1) (ints os1) * (pts be (.cells #[.slice none 0 0, .slice none 0 0] 71 (0, 0)) * S)))) inferInstance inferInstance) ?_
            unfold Read3H
            rw [HLO.out]; rfl
          case measure => (simp [intOf]; try omega)
        · obtain ⟨r', hr'⟩ := read3_take HR3.out (i + 1)
          obtain ⟨j, x, rfl, hx, rfl⟩ := step3_shut HNOT.out (by rw [hen]; exact h0) (HQ1.out.symm.trans hr')
          rw [hen, hos1] at hr'
          have HQ2 := Hd.mk hr'
          have hol1 : os0.length + 1 ≤ 1000 := by have := (read3_len (by have := HM.out; omega) HQ2.out).1; rw [show os1.length = _ from HLO.out] at this; omega
          have hgt : 0 < en := by
            have := end3_le k
            omega
          have hjl : j < cs0.length := (List.getElem?_eq_some_iff.1 hx).1
          have HLS : Hd ((cs0.set j ⟨x.fn, x.up, x.df, en, v⟩).length = cs0.length) := ⟨List.length_set⟩
          have HCC : Hd (((cC5s cs0).set (j * 5 + 3) (.int .i64 en)).set (j * 5 + 4) (.int .i64 v) = cC5s (cs0.set j ⟨x.fn, x.up, x.df, en, v⟩)) := ⟨by
            rw [cC5s_set (y := ⟨x.fn, x.up, x.df, en, x.va⟩) hx (by omega) rfl, cC5s_set (y := ⟨x.fn, x.up, x.df, en, v⟩) (List.getElem?_set_self hjl) (by omega) rfl, List.set_set]⟩
          obtain ⟨g, rfl⟩ := Row.addr HS.right (by omega)
          have d3 : ∀ F, CellAt (Row 85 5 (.slice (some ⟨g, 0, none⟩) cs0.length cc) cs0.length (cC5s cs0) * F) g (j * 5 + 3) (.int .i64 x.en) := fun F => Row.cellAt (cC5s_get hx).2.2.2.1
          have d4 : ∀ F, CellAt (Row 85 5 (.slice (some ⟨g, 0, none⟩) cs0.length cc) cs0.length ((cC5s cs0).set (j * 5 + 3) (.int .i64 en)) * F) g (j * 5 + 4) (.int .i64 x.va) := fun F => Row.cellAt (by rw [List.getElem?_set_ne (by omega)]; exact (cC5s_get hx).2.2.2.2)
          have d1 : ∀ F, CellAt (Row 85 5 (.slice (some ⟨g, 0, none⟩) cs0.length cc) cs0.length (((cC5s cs0).set (j * 5 + 3) (.int .i64 en)).set (j * 5 + 4) (.int .i64 v)) * F) g (j * 5 + 1) (.int .i64 x.up) := fun F => Row.cellAt (by rw [List.getElem?_set_ne (by omega), List.getElem?_set_ne (by omega)]; exact (cC5s_get hx).2.1)
          clear hos1 hen HQ1 HQ hr' h0 hx
          go_wp2_with (first | (go_at_call 98; refine (spec_l3End _ _).mono ?_; rintro e w6 ⟨rfl, rfl⟩; rw [HE0.out]) | (at_builtin; go_must ((refine ev_append (v := .slice Ao os0.length oc) rfl _ _ 26 rfl rfl 8 _ Try.underlying26 info_int rfl (by decide) (by decide) (wr.heap.size + 1) 1 1 rfl rfl (by simp [Value.oneCell']) (by omega) ?_; intro v2 w5 HS5 HE5; replace HS5 := Row.as HS5 rfl HOO.out; obtain ⟨A5, c5, rfl, _, _⟩ := Row.form HS5))))
          go_roundw
          case rel =>
            refine ⟨i + 1, cs0.set j ⟨x.fn, x.up, x.df, en, v⟩, os1, x.up, some ⟨g, 0, none⟩, A5, cc, c5, by omega, by go_num, rfl, by rw [HLO.out]; exact hol1, by rw [HLS.out]; omega, HQ2, inferInstance, ?_⟩
            refine SepI.cast (Ent.sep (S := _) (T := pts (be + 3) (.cells (#[Value.slice (some ⟨g, 0, none⟩) cs0.length cc, Value.slice Ao os0.length oc].setIfInBounds 1 (Value.slice A5 (os0.length + 1) c5)) 71 (0, 0)) * (Row 85 5 (.slice (some ⟨g, 0, none⟩) cs0.length cc) cs0.length (((cC5s cs0).set (j * 5 + 3) (.int .i64 en)).set (j * 5 + 4) (.int .i64 v)) * (Row 3 1 (.slice A5 (os0.length + 1) c5) (os0.length + 1) (ints os1) * (pts be (.cells #[.slice none 0 0, .slice none 0 0] 71 (0, 0)) * S)))) inferInstance inferInstance) ?_
            unfold Read3H
            rw [HLO.out, HLS.out, HCC.out]; rfl
          case measure => (simp [intOf]; try omega)
    · have : i = m := by omega
      subst this
      have e := HQ.out
      rw [HM.out, List.take_length, HR3.out] at e
      injection e with e
      injection e with e1 e2 e3
      subst e1 e2
      clear HQ
      unfold Read3H at HS
      go_wp2
      refine bodyPost_ret (v := .agg #[.slice Ac cs.length cc, .slice Ao os.length oc]) (by simp [results, Try.results62, go_sem]) rfl ?_
      exact ⟨Ac, cc, Ao, oc, rfl, Post.mk' (Ent.sep (S := _) inferInstance inferInstance) inferInstance⟩
end Go.Proofs.Ytobikkdnalnllaa
