/- CountEnds and DepthsOf by the program and by the reference. Conditions: lengths within bounds. -/
import Derived.Test.YtobikkdnalnllaaQl
namespace Go.Proofs.Ytobikkdnalnllaa
open Go.RowKit SL
attribute [local go_sem] cell_blk frozen_blk lt_blk cell_at frozen_row lt_row
set_option linter.unusedVariables false
set_option linter.unusedSimpArgs false
abbrev q4 (q : R4s) : Array Value := #[.int .i64 q.a, .int .i64 q.b, .int .i64 q.c, .int .i64 q.d]
theorem calls_ok (L : List (List St)) (fn arg fuel : Int) : (ans_CallTree L fn arg fuel).length ≤ 1000 ∧ (∀ c ∈ ans_CallTree L fn arg fuel, 1 ≤ c.en ∧ c.en ≤ 4) ∧ ∀ (k : Nat) c, (ans_CallTree L fn arg fuel)[k]? = some c → -1 ≤ c.up ∧ c.up < (k : Int) := by
  obtain ⟨v, hv⟩ : ∃ v, askB L fn arg fuel = v := ⟨_, rfl⟩
  cases v
  · rw [ans_CallTree_no hv]; exact ⟨by simp, fun c h => by (cases h), fun k c h => by simp at h⟩
  · obtain ⟨fu, rfl⟩ : ∃ fu : Nat, fuel = fu := ⟨fuel.toNat, by have := (askB_of hv).2.2.2.1; omega⟩
    rw [ans_CallTree_yes hv]
    have FF := factsB hv
    have h1 := FF.bl.c
    have h2 := FF.ts
    refine ⟨by rw [List.length_map]; omega, fun c hc => ?_, fun k c hk => ?_⟩
    · obtain ⟨x, hx, rfl⟩ := List.mem_map.1 hc
      exact FF.cs.en x hx
    · rw [List.getElem?_map] at hk
      obtain ⟨x, hx, rfl⟩ := Option.map_eq_some_iff.1 hk
      exact FF.cs.up k x hx
theorem depA_le (cs : List C5) : ∀ i, ∀ x ∈ depA (cs.take i), 0 ≤ x ∧ x ≤ (i : Int)
  | 0, x, h => by cases h
  | i + 1, x, h => by
    have ih := depA_le cs i
    by_cases hi : i < cs.length
    · obtain ⟨c, hc⟩ := get_ex hi
      rw [take_succ_eq hc, depA_snoc] at h
      unfold depS at h
      rcases List.mem_append.1 h with h | h
      · have := ih x h; omega
      · rw [List.mem_singleton] at h
        subst h
        split
        · omega
        · rw [List.getD_eq_getElem?_getD]
          cases e : (depA (cs.take i))[c.up.toNat]? with
          | none => show 0 ≤ (0 : Int) + 1 ∧ (0 : Int) + 1 ≤ _; omega
          | some y => have := ih y (List.mem_of_getElem? e); show 0 ≤ y + 1 ∧ y + 1 ≤ _; omega
    · rw [List.take_of_length_le (by omega)] at h
      rw [List.take_of_length_le (by omega)] at ih
      have := ih x h
      omega
theorem depA_next {cs : List C5} {i : Nat} {c : C5} (h : cs[i]? = some c) : depA (cs.take (i + 1)) = depS (depA (cs.take i)) c := by rw [take_succ_eq h, depA_snoc]
theorem depS_top {l : List Int} {c : C5} (h : c.up < 0) : depS l c = l ++ [1] := by unfold depS; rw [if_pos h]
theorem depS_in {l : List Int} {c : C5} {k : Nat} {d : Int} (h : c.up = (k : Int)) (hd : l[k]? = some d) : depS l c = l ++ [d + 1] := by
  unfold depS
  rw [if_neg (by omega), h, Int.toNat_natCast, List.getD_eq_getElem?_getD, hd]; rfl
set_option maxRecDepth 100000 in
set_option maxHeartbeats 8000000 in
theorem impl_depths (S0 S : HP) (w : World) [H : SepI w S0] (gm : Nat) (A : Option Addr) (n c : Nat) (fuel : Int) (R : Run) (x : MVs) (M : MRd S0 S gm A n c fuel R x) (FC : Facts R) :
    Calls Try.prog 86 #[.pointer (some ⟨gm, 0, none⟩)] w (IntsPost S0 (depA (R.m.calls.map c5)) w) := by
  obtain ⟨m, hm⟩ : ∃ m, m = R.m.calls.length := ⟨_, rfl⟩
  have HM := Hd.mk hm
  have hml : m ≤ 1000 := by have h1 := FC.bl.c; have h2 := FC.ts; omega
  obtain ⟨O, hO⟩ : ∃ O : Nat → List Int, O = fun i => depA ((R.m.calls.map c5).take i) := ⟨_, rfl⟩
  have HO0 : Hd (O 0 = []) := ⟨by rw [hO]; rfl⟩
  have HOM : Hd (O m = depA ((R.m.calls.map c5))) := ⟨by rw [hO, hm]; simp only; rw [← List.map_take, List.take_length]⟩
  have HOL : Hd (∀ i, i ≤ m → (O i).length = i) := ⟨fun i h => by rw [hO]; simp only; rw [depA_len, List.length_take, List.length_map, ← HM.out]; omega⟩
  have HOB : Hd (∀ i, ∀ x ∈ O i, 0 ≤ x ∧ x ≤ (i : Int)) := ⟨fun i => by rw [hO]; exact depA_le _ i⟩
  have HOY : Hd (∀ (i : Nat) (x : Ci), R.m.calls[i]? = some x → O (i + 1) = depS (O i) (c5 x)) := ⟨fun i x h => by rw [hO]; exact depA_next (by rw [List.getElem?_map, h]; rfl)⟩
  have HUP : Hd (∀ (i : Nat) (x : Ci), R.m.calls[i]? = some x → -1 ≤ x.up ∧ x.up < (i : Int)) := ⟨FC.cs.up⟩
  rw [← HOM.out]
  obtain ⟨A1, c1, A2, c2, A3, c3, A4, c4, A5, c5', bm, ps⟩ := x
  have i1 := M.blk
  have rC := M.ca
  dsimp only at i1 rC
  rw [← hm] at i1
  clear hO M hm FC
  obtain ⟨bf, hbf⟩ : ∃ bf, bf = w.heap.size := ⟨_, rfl⟩
  have hlit : SepI (w.alloc (.cells #[] 3 (0, 0))) (Row 3 1 (.slice (some ⟨w.heap.size, 0, none⟩) 0 0) 0 [] * S0) := Row.lit0 (SepI.i_alloc w (.cells #[] 3 (0, 0)) S0 _)
  have HBF := Hd.mk hbf
  clear hbf
  go_enter Try.func86, Try.ntmps86
  go_wp2
  rw [← HBF.out] at hlit ⊢
  go_loopw [3, 12] (fun v3 v4 wr => ∃ (i : Nat) (vv : Value), i ≤ m ∧ v4 = .int .i64 i ∧ v3 = vv ∧ ExtI w wr ∧ SepI wr (Row 3 1 vv (O i).length (ints (O i)) * S0)) (fun _ v _ => m - (intOf v).toNat)
  case atStart => exact ⟨0, .slice (some ⟨bf, 0, none⟩) 0 0, Nat.zero_le _, rfl, rfl, inferInstance, SepI.cast hlit (by rw [HO0.out]; rfl)⟩
  case round =>
    obtain ⟨i, vv, hi, rfl, rfl, HX, HS3⟩ := hrel
    by_cases hlt : i < m
    · obtain ⟨x, hs1⟩ := get_ex (xs := R.m.calls) (k := i) (by rw [← HM.out]; exact hlt)
      obtain ⟨bp, op, rfl⟩ := rC.addr H (j := i) (by rw [cCis_len, ← HM.out]; omega)
      have e1 := rC.cell (cCis_at hs1).1
      have eup := rC.cell (cCis_at hs1).2.1
      have e3 := rC.cell (cCis_at hs1).2.2.1
      have e4 := rC.cell (cCis_at hs1).2.2.2.1
      have e5 := rC.cell (cCis_at hs1).2.2.2.2.1
      have e6 := rC.cell (cCis_at hs1).2.2.2.2.2
      obtain ⟨A0, c0, rfl, hc0, hc1⟩ := Row.form HS3
      have HNX := HOY.out i x hs1
      have hup := HUP.out i x hs1
      have hol : (O i).length ≤ 1000 := by rw [HOL.out i (by omega)]; omega
      have HLL : Hd ((O i).length + 1 = (O (i + 1)).length) := ⟨by rw [HOL.out i (by omega), HOL.out (i + 1) (by omega)]⟩
      by_cases hneg : x.up < 0
      · have HNY := HNX.trans (depS_top (by exact hneg))
        have HOO : Hd (ints (O i) ++ #[.int .i64 1].toList = ints (O (i + 1))) := ⟨by rw [HNY, ints_append]; rfl⟩
        clear hs1 HNX HNY
        go_wp2_with (at_builtin; go_must (refine ev_append (v := .slice A0 (O i).length c0) rfl _ _ 26 rfl rfl 8 _ Try.underlying26 info_int rfl (by decide) (by decide) (wr.heap.size + 1) 1 1 rfl rfl (by simp [Value.oneCell']) (by omega) ?_; intro v1 w4 HS4 HE4; replace HS4 := Row.as HS4 HLL.out HOO.out))
        go_roundw
        case rel => exact ⟨i + 1, v1, by omega, by go_num, rfl, inferInstance, Ent.sep (S := _) (T := Row 3 1 v1 (O (i + 1)).length (ints (O (i + 1))) * S0) inferInstance HS4⟩
        case measure => (simp [intOf]; try omega)
      · obtain ⟨k, hk⟩ : ∃ k : Nat, x.up = (k : Int) := ⟨x.up.toNat, by omega⟩
        have hkl : k < (O i).length := by rw [HOL.out i (by omega)]; omega
        obtain ⟨d, hd⟩ := get_ex hkl
        have hdb := HOB.out i d (List.mem_of_getElem? hd)
        have HNY := HNX.trans (depS_in (by exact hk) hd)
        have HOO : Hd (ints (O i) ++ #[.int .i64 (d + 1)].toList = ints (O (i + 1))) := ⟨by rw [HNY, ints_append]; rfl⟩
        have hw : IntKind.i64.wrap (d + 1) = d + 1 := IntWalk.i64_in _ (by omega)
        obtain ⟨g0, rfl⟩ := Row.addr HS3 (by omega)
        have dd : ∀ F, CellAt (Row 3 1 (.slice (some ⟨g0, 0, none⟩) (O i).length c0) (O i).length (ints (O i)) * F) g0 k (.int .i64 d) := fun F => Row.cellAt (ints_get hd)
        rw [hk] at eup
        clear hs1 HNX HNY hd hk hneg hup
        go_wp2_with (at_builtin; go_must (refine ev_append (v := .slice (some ⟨g0, 0, none⟩) (O i).length c0) rfl _ _ 26 rfl rfl 8 _ Try.underlying26 info_int rfl (by decide) (by decide) (wr.heap.size + 1) 1 1 rfl rfl (by simp [Value.oneCell']) (by omega) ?_; intro v1 w4 HS4 HE4; replace HS4 := Row.as HS4 HLL.out HOO.out))
        go_roundw
        case rel => exact ⟨i + 1, v1, by omega, by go_num, rfl, inferInstance, Ent.sep (S := _) (T := Row 3 1 v1 (O (i + 1)).length (ints (O (i + 1))) * S0) inferInstance HS4⟩
        case measure => (simp [intOf]; try omega)
    · have : i = m := by omega
      subst this
      obtain ⟨A0, c0, rfl, hc0, hc1⟩ := Row.form HS3
      go_wp2
      go_ret
      exact IntsPost.of (v := .slice A0 (O i).length c0) (Post.mk' (Ent.sep (S := _) inferInstance inferInstance) inferInstance)
def ok_DepthsOf (L : List (List St)) (fn arg fuel : Int) : Bool := ok_CallTree L fn arg fuel
def ans_DepthsOf (L : List (List St)) (fn arg fuel : Int) : List Int := depA (ans_CallTree L fn arg fuel)
set_option maxRecDepth 100000 in
set_option maxHeartbeats 8000000 in
theorem spec_DepthsOfA (S : HP) (w : World) [H : SepI w S] (A : Option Addr) (c : Nat) (bs : List Bd) [r : Rd S A (cBds bs)] [B : Bodies S bs] (hnn : NoneNil bs) (fn arg fuel : Int) :
    Calls Try.prog 84 #[.agg #[.slice A bs.length c], .int .i64 fn, .int .i64 arg, .int .i64 fuel] w (IntsOk S (ans_DepthsOf (bs.map (·.l)) fn arg fuel) (ok_DepthsOf (bs.map (·.l)) fn arg fuel) w) := by
  have hbn := B.n
  unfold ans_DepthsOf ok_DepthsOf
  obtain ⟨hl1, hl2, hl3⟩ := calls_ok (bs.map (·.l)) fn arg fuel
  obtain ⟨l, hl⟩ : ∃ l, ans_CallTree (bs.map (·.l)) fn arg fuel = l := ⟨_, rfl⟩
  obtain ⟨ok, hok⟩ : ∃ ok, ok_CallTree (bs.map (·.l)) fn arg fuel = ok := ⟨_, rfl⟩
  rw [hl] at hl1 hl2 hl3 ⊢
  rw [hok]
  have HL := Hd.mk hl
  have HOK := Hd.mk hok
  have HL2 := Hd.mk hl2
  have HL3 := Hd.mk hl3
  have HNN := Hd.mk hnn
  clear hl hok hl2 hl3 hnn
  obtain ⟨m, hm⟩ : ∃ m, m = l.length := ⟨_, rfl⟩
  have HM := Hd.mk hm
  have hml : m ≤ 1000 := by omega
  obtain ⟨O, hO⟩ : ∃ O : Nat → List Int, O = fun i => depA (l.take i) := ⟨_, rfl⟩
  have HO0 : Hd (O 0 = []) := ⟨by rw [hO]; rfl⟩
  have HOM : Hd (O m = depA (l)) := ⟨by rw [hO, hm]; simp only [List.take_length]⟩
  have HOL : Hd (∀ i, i ≤ m → (O i).length = i) := ⟨fun i h => by rw [hO]; simp only; rw [depA_len, List.length_take, ← hm]; omega⟩
  have HOB : Hd (∀ i, ∀ x ∈ O i, 0 ≤ x ∧ x ≤ (i : Int)) := ⟨fun i => by rw [hO]; exact depA_le _ i⟩
  have HOY : Hd (∀ (i : Nat) (x : C5), l[i]? = some x → O (i + 1) = depS (O i) x) := ⟨fun i x h => by rw [hO]; exact depA_next h⟩
  have HUP := HL3
  rw [← HOM.out]
  clear hO
  have hlit : SepI (w.alloc (.cells #[.slice A bs.length c] 31 (0, 0)) |>.alloc (.cells #[] 3 (0, 0))) (Row 3 1 (.slice (some ⟨w.heap.size + 1, 0, none⟩) 0 0) 0 [] * (pts w.heap.size (.cells #[.slice A bs.length c] 31 (0, 0)) * S)) := Row.lit0 (SepI.i_alloc _ (.cells #[] 3 (0, 0)) _ _)
  have hnot : ∀ (x : Bool) (w : World), (Op.unary .not (.bool x)).run Try.prog w = .ok (.bool (!x)) w := fun _ _ => rfl
  go_enter Try.func84, Try.ntmps84
  go_wp2_with fail
  refine (@spec_CallTreeA _ _ hlit A c bs inferInstance inferInstance HNN.out fn arg fuel).mono ?_
  rw [HL.out, HOK.out]
  rintro e w1 ⟨Ac, cc, rfl, HP⟩
  have HS1 := HP.sep
  have HE1 := HP.ext
  clear HP hlit
  rw [← hm] at HS1 ⊢
  clear hm
  have HS2 : SepI w1 (Row 3 1 (.slice (some ⟨w.heap.size + 1, 0, none⟩) 0 0) 0 [] * (Row 85 5 (.slice Ac m cc) m (cC5s l) * (pts w.heap.size (.cells #[.slice A bs.length c] 31 (0, 0)) * S))) := SepI.cast HS1 (star_left _ _ _)
  clear HS1
  go_wp2
  go_loopw [10, 13] (fun v3 v4 wr => ∃ (i : Nat) (vv : Value), i ≤ m ∧ v4 = .int .i64 i ∧ v3 = vv ∧ ExtI w wr ∧ SepI wr (Row 3 1 vv (O i).length (ints (O i)) * (Row 85 5 (.slice Ac m cc) m (cC5s l) * (pts w.heap.size (.cells #[.slice A bs.length c] 31 (0, 0)) * S)))) (fun _ v _ => m - (intOf v).toNat)
  case atStart => exact ⟨0, .slice (some ⟨w.heap.size + 1, 0, none⟩) 0 0, Nat.zero_le _, rfl, rfl, inferInstance, SepI.cast HS2 (by rw [HO0.out]; rfl)⟩
  case round =>
    obtain ⟨i, vv, hi, rfl, rfl, HX, HS3⟩ := hrel
    by_cases hlt : i < m
    · obtain ⟨x, hs1⟩ := get_ex (xs := l) (k := i) (by rw [← HM.out]; exact hlt)
      obtain ⟨gc, rfl⟩ := Row.addr HS3.right (by omega)
      have eup : ∀ F, CellAt (Row 85 5 (.slice (some ⟨gc, 0, none⟩) m cc) m (cC5s l) * F) gc (i * 5 + 1) (.int .i64 x.up) := fun F => Row.cellAt (cC5s_get hs1).2.1
      obtain ⟨A0, c0, rfl, hc0, hc1⟩ := Row.form HS3
      have HNX := HOY.out i x hs1
      have hup := HUP.out i x hs1
      have hol : (O i).length ≤ 1000 := by rw [HOL.out i (by omega)]; omega
      have HLL : Hd ((O i).length + 1 = (O (i + 1)).length) := ⟨by rw [HOL.out i (by omega), HOL.out (i + 1) (by omega)]⟩
      by_cases hneg : x.up < 0
      · have HNY := HNX.trans (depS_top (by exact hneg))
        have HOO : Hd (ints (O i) ++ #[.int .i64 1].toList = ints (O (i + 1))) := ⟨by rw [HNY, ints_append]; rfl⟩
        clear hs1 HNX HNY
        go_wp2_with (at_builtin; go_must (refine ev_append (v := .slice A0 (O i).length c0) rfl _ _ 26 rfl rfl 8 _ Try.underlying26 info_int rfl (by decide) (by decide) (wr.heap.size) 1 1 rfl rfl (by simp [Value.oneCell']) (by omega) ?_; intro v1 w4 HS4 HE4; replace HS4 := Row.as HS4 HLL.out HOO.out))
        go_roundw
        case rel => exact ⟨i + 1, v1, by omega, by go_num, rfl, inferInstance, Ent.sep (S := _) (T := Row 3 1 v1 (O (i + 1)).length (ints (O (i + 1))) * (Row 85 5 (.slice (some ⟨gc, 0, none⟩) m cc) m (cC5s l) * (pts w.heap.size (.cells #[.slice A bs.length c] 31 (0, 0)) * S))) inferInstance HS4⟩
        case measure => (simp [intOf]; try omega)
      · obtain ⟨k, hk⟩ : ∃ k : Nat, x.up = (k : Int) := ⟨x.up.toNat, by omega⟩
        have hkl : k < (O i).length := by rw [HOL.out i (by omega)]; omega
        obtain ⟨d, hd⟩ := get_ex hkl
        have hdb := HOB.out i d (List.mem_of_getElem? hd)
        have HNY := HNX.trans (depS_in (by exact hk) hd)
        have HOO : Hd (ints (O i) ++ #[.int .i64 (d + 1)].toList = ints (O (i + 1))) := ⟨by rw [HNY, ints_append]; rfl⟩
        have hw : IntKind.i64.wrap (d + 1) = d + 1 := IntWalk.i64_in _ (by omega)
        obtain ⟨g0, rfl⟩ := Row.addr HS3 (by omega)
        have dd : ∀ F, CellAt (Row 3 1 (.slice (some ⟨g0, 0, none⟩) (O i).length c0) (O i).length (ints (O i)) * F) g0 k (.int .i64 d) := fun F => Row.cellAt (ints_get hd)
        simp only [hk] at eup
        clear hs1 HNX HNY hd hk hneg hup
        go_wp2_with (at_builtin; go_must (refine ev_append (v := .slice (some ⟨g0, 0, none⟩) (O i).length c0) rfl _ _ 26 rfl rfl 8 _ Try.underlying26 info_int rfl (by decide) (by decide) (wr.heap.size) 1 1 rfl rfl (by simp [Value.oneCell']) (by omega) ?_; intro v1 w4 HS4 HE4; replace HS4 := Row.as HS4 HLL.out HOO.out))
        go_roundw
        case rel => exact ⟨i + 1, v1, by omega, by go_num, rfl, inferInstance, Ent.sep (S := _) (T := Row 3 1 v1 (O (i + 1)).length (ints (O (i + 1))) * (Row 85 5 (.slice (some ⟨gc, 0, none⟩) m cc) m (cC5s l) * (pts w.heap.size (.cells #[.slice A bs.length c] 31 (0, 0)) * S))) inferInstance HS4⟩
        case measure => (simp [intOf]; try omega)
    · have : i = m := by omega
      subst this
      obtain ⟨A0, c0, rfl, hc0, hc1⟩ := Row.form HS3
      go_wp2
      go_ret2
      exact IntsOk.of (v := .slice A0 (O i).length c0) (Post.mk' (Ent.sep (S := _) inferInstance inferInstance) inferInstance)
end Go.Proofs.Ytobikkdnalnllaa
