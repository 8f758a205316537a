/- GuardsOf by the reference: the walk (begun). Conditions: lengths within bounds. -/
import Derived.Test.YtnmbmdigiaokjaaGf
namespace Go.Proofs.Ytnmbmdigiaokjaa
open Go.RowKit SL
attribute [local go_sem] cell_blk frozen_blk lt_blk cell_at frozen_row lt_row
set_option linter.unusedVariables false
set_option linter.unusedSimpArgs false

set_option maxRecDepth 100000 in
set_option maxHeartbeats 2000000 in
theorem spec_GuardsOf (S : HP) (w : World) [H : SepI w S] (A : Option Addr) (c : Nat) (bs : List Bd) [r : Rd S A (cBds bs)] [B : Bodies S bs] (f : Int) :
    Calls Try.prog 42 #[.agg #[.slice A bs.length c], .int .i64 f] w (IntsOk S (guardsAns (bs.map (·.l)) f) (funB (bs.map (·.l)) f) w) := by
  obtain ⟨ok, hok⟩ : ∃ ok, funB (bs.map (·.l)) f = ok := ⟨_, rfl⟩
  have HOK := Hd.mk hok
  rw [hok]
  have hn := B.n
  obtain ⟨p, hp⟩ : ∃ p, progB (bs.map (·.l)) = p := ⟨_, rfl⟩
  obtain ⟨q, hq⟩ : ∃ q, inB f 0 ((bs.length : Int) - 1) = q := ⟨_, rfl⟩
  have HP0 := Hd.mk hp
  have HQ0 := Hd.mk hq
  have hpq : ok = (p && q) := by rw [← hok]; unfold funB; rw [List.length_map, hp, hq]
  clear hok hp hq
  have hlit : SepI (w.alloc (.cells #[.slice A bs.length c] 54 (0, 0)) |>.alloc (.cells #[] 3 (0, 0))) (Row 3 1 (.slice (some ⟨w.heap.size + 1, 0, none⟩) 0 0) 0 [] * (pts w.heap.size (.cells #[.slice A bs.length c] 54 (0, 0)) * S)) :=
    Row.lit0 (SepI.i_alloc _ (.cells #[] 3 (0, 0)) _ _)
  cases p
  · subst hpq
    have hans : guardsAns (bs.map (·.l)) f = [] := by unfold guardsAns; rw [HOK.out]; rfl
    rw [hans]
    clear hans
    go_enter Try.func42, Try.ntmps42
    go_wp2_with fail
    refine (spec_l2Program _ _ (H := hlit) _ _ bs).mono ?_
    rintro e w1 ⟨rfl, HP⟩
    rw [HP0.out]
    have HS1 := HP.sep
    have HE1 := HP.ext
    clear HP
    go_wp2
    go_ret2
    exact IntsOk.nil (v := .slice (some ⟨w.heap.size + 1, 0, none⟩) 0 0) (Post.mk' (Ent.sep (S := _) inferInstance inferInstance) inferInstance)
  cases q
  · subst hpq
    have hans : guardsAns (bs.map (·.l)) f = [] := by unfold guardsAns; rw [HOK.out]; rfl
    rw [hans]
    clear hans
    go_enter Try.func42, Try.ntmps42
    go_wp2_with fail
    refine (spec_l2Program _ _ (H := hlit) _ _ bs).mono ?_
    rintro e w1 ⟨rfl, HP⟩
    rw [HP0.out]
    have HS1 := HP.sep
    have HE1 := HP.ext
    clear HP
    go_wp2_with fail
    refine (spec_l2Function _ _ _ _ _ _ _ (by omega) HQ0.out).mono ?_
    rintro e w2 ⟨rfl, HP⟩
    have HS2 := HP.sep
    have HE2 := HP.ext
    clear HP
    go_wp2
    go_ret2
    exact IntsOk.nil (v := .slice (some ⟨w.heap.size + 1, 0, none⟩) 0 0) (Post.mk' (Ent.sep (S := _) inferInstance inferInstance) inferInstance)
  · subst hpq
    obtain ⟨hv, k, rfl, hk⟩ := funB_of HOK.out
    rw [List.length_map] at hk
    obtain ⟨x, hx⟩ := get_ex hk
    obtain ⟨hans, hxl⟩ := guardsAns_at HOK.out hx
    rw [hans]
    have HX := Hd.mk hx
    obtain ⟨m, hm⟩ : ∃ m, m = ascA (callN kDf x.l) := ⟨_, rfl⟩
    have hml : m.length ≤ 8 := by
      have h1 := ascA_len (callN kDf x.l)
      have h2 := callN_len kDf x.l
      rw [hm]; omega
    have HMF : Hd (∀ y ∈ m, ∃ j : Nat, y = j ∧ j < bs.length) := ⟨fun y hy => by
      have := called_fun hv (List.mem_map.2 ⟨x, List.mem_of_getElem? hx, rfl⟩) (kd := kDf) (fun k h => .inr (by simpa [kDf] using h)) (by rw [← hm]; exact hy)
      rwa [List.length_map] at this⟩
    have HSL : Hd (∀ (j : Nat) z, bs[j]? = some z → z.l.length ≤ 8) := ⟨fun j z hz => (prog_small hv).2.2 z.l (List.mem_map.2 ⟨z, List.mem_of_getElem? hz, rfl⟩)⟩
    have HNR : Hd (∀ (j : Nat) z, bs[j]? = some z → noRec (bs.map (·.l)) j = !hasRec z.l) := ⟨fun j z hz => by unfold noRec; rw [Int.toNat_natCast, List.getD_eq_getElem?_getD, List.getElem?_map, hz]; rfl⟩
    obtain ⟨G, hG⟩ : ∃ G : Nat → List Int, G = fun i => (m.take i).filter (fun g => !noRec (bs.map (·.l)) g) := ⟨_, rfl⟩
    have HG0 : Hd (G 0 = []) := ⟨by rw [hG]; rfl⟩
    obtain ⟨mm, hmm⟩ : ∃ mm, mm = m.length := ⟨_, rfl⟩
    have HMM := Hd.mk hmm
    have hmm8 : mm ≤ 8 := by rw [hmm]; exact hml
    have HGM : Hd (G mm = m.filter (fun g => !noRec (bs.map (·.l)) g)) := ⟨by rw [hG, hmm]; simp only [List.take_length]⟩
    have HGN : Hd (∀ i y, m[i]? = some y → G (i + 1) = G i ++ (if noRec (bs.map (·.l)) y then [] else [y])) := ⟨fun i y hy => by
      rw [hG]; simp only; rw [take_succ_eq hy, List.filter_append]; congr 1
      cases hq : noRec (bs.map (·.l)) y <;> simp [hq]⟩
    have HGL : Hd (∀ i, (G i).length ≤ 8) := ⟨fun i => by
      rw [hG]
      have h1 := List.length_filter_le (fun g => !noRec (bs.map (·.l)) g) (m.take i)
      rw [List.length_take] at h1
      simp only; omega⟩
    have HM := Hd.mk hm
    have HB := Hd.mk B
    rw [← hm, ← HGM.out]
    clear hans hv hx hm hG hmm hml
    go_enter Try.func42, Try.ntmps42
    go_wp2_with fail
    refine (spec_l2Program _ _ (H := hlit) _ _ bs).mono ?_
    rintro e w1 ⟨rfl, HP⟩
    rw [HP0.out]
    have HS1 := HP.sep
    have HE1 := HP.ext
    clear HP
    go_wp2_with fail
    refine (spec_l2Function _ _ _ _ _ _ _ (by omega) HQ0.out).mono ?_
    rintro e w2 ⟨rfl, HP⟩
    have HS2 := HP.sep
    have HE2 := HP.ext
    clear HP
    obtain ⟨be, hbe⟩ : ∃ be, be = w.heap.size := ⟨_, rfl⟩
    rw [← hbe] at HS2 ⊢
    clear hbe HS1 hlit
    go_wp2_with fail
    refine (spec_l5Defers _ _ _ _ bs k x HX.out hxl).mono ?_
    rintro e w3 ⟨g, cc, rfl, HP⟩
    rw [← HM.out, ← HMM.out] at HP
    rw [← HM.out, ← HMM.out]
    have HS3 := HP.sep
    have HE3 := HP.ext
    clear HP HS2
    go_wp2
    go_loopw [6, 8] (fun v6 v8 wr => ∃ (i : Nat) (vv : Value), i ≤ mm ∧ v8 = .int .i64 i ∧ v6 = vv ∧ ExtI w wr ∧ SepI wr (Row 3 1 vv (G i).length (ints (G i)) * (Row 3 1 (.slice (some ⟨g, 0, none⟩) mm cc) mm (ints m) * (pts be (.cells #[.slice A bs.length c] 54 (0, 0)) * S)))) (fun _ v _ => mm - (intOf v).toNat)
    case atStart => exact ⟨0, .slice (some ⟨be + 1, 0, none⟩) 0 0, Nat.zero_le _, rfl, rfl, inferInstance, SepI.cast (Ent.sep (S := _) (T := Row 3 1 (.slice (some ⟨be + 1, 0, none⟩) 0 0) 0 [] * (Row 3 1 (.slice (some ⟨g, 0, none⟩) mm cc) mm (ints m) * (pts be (.cells #[.slice A bs.length c] 54 (0, 0)) * S))) inferInstance HS3) (by rw [HG0.out]; rfl)⟩
    case round =>
      obtain ⟨i, vv, hi, rfl, rfl, HX4, HS4⟩ := hrel
      obtain ⟨A0, c0, rfl, hc0, hc1⟩ := Row.form HS4
      by_cases hlt : i < mm
      · obtain ⟨y, hy⟩ := get_ex (xs := m) (k := i) (by rw [← HMM.out]; exact hlt)
        obtain ⟨j, rfl, hj⟩ := HMF.out y (List.mem_of_getElem? hy)
        obtain ⟨z, hz⟩ := get_ex hj
        have d1 : CellAt _ g _ _ := Row.cellAt (e := 3) (size := 1) (g := g) (n := mm) (c := cc) (F := (pts be (.cells #[.slice A bs.length c] 54 (0, 0)) * S)) (ints_get hy)
        have HGI := Hd.mk (HGN.out i _ hy)
        have HZ := Hd.mk hz
        have hgl := HGL.out i
        obtain ⟨q, hq⟩ : ∃ q, hasRec z.l = q := ⟨_, rfl⟩
        have HQ : Hd (noRec (bs.map (·.l)) j = !q) := ⟨by rw [HNR.out j z hz, hq]⟩
        have HQP : Hd (decide (0 < (recN z.l z.l.length).length) = q) := ⟨by rw [recN_pos, hq]⟩
        clear hy hz hq
        go_wp2_with fail
        go_still_tail 5, (by kernel_rfl)
        change wpList _ _ _ _ _ wr.drew
        go_wp2_with fail
        refine (spec_l5Recovers _ _ _ _ bs j z HZ.out (HSL.out j z HZ.out)).mono ?_
        rintro e w5 ⟨v5, rfl, HP⟩
        have HS5 := HP.sep
        have HE5 := HP.ext
        clear HP
        have HS6 : SepI w5 (Row 3 1 (.slice A0 (G i).length c0) (G i).length (ints (G i)) * (Row 3 1 (.slice (some ⟨g, 0, none⟩) mm cc) mm (ints m) * (pts be (.cells #[.slice A bs.length c] 54 (0, 0)) * S))) := Ent.sep (S := _) inferInstance HS5
        obtain ⟨A5, c5, rfl, _, hc5⟩ := Row.form HS5
        obtain ⟨n5, hn5⟩ : ∃ n5, (nats (recN z.l z.l.length)).length = n5 := ⟨_, rfl⟩
        have hq5 : decide (0 < n5) = q := by rw [← hn5, nats_len]; exact HQP.out
        clear HS5
        cases q
        · have hn0 : n5 = 0 := by have := of_decide_eq_false hq5; omega
          subst hn0
          go_wp2
          go_roundw
          case rel => exact ⟨i + 1, .slice A0 (G i).length c0, by omega, by go_num, rfl, inferInstance, SepI.cast HS6 (by rw [HGI.out, HQ.out]; simp)⟩
          case measure => (simp [intOf]; try omega)
        · have hn0 : 0 < n5 := of_decide_eq_true hq5
          go_wp2_with (at_builtin; go_must (refine ev_append (v := .slice A0 (G i).length c0) rfl _ _ 34 rfl rfl 8 _ Try.underlying34 info_int rfl (by decide) (by decide) w5.heap.size 1 1 rfl rfl (by simp [Value.oneCell']) (by omega) ?_); intro v1 w7 HS7 HE7)
          go_roundw
          case rel => exact ⟨i + 1, v1, by omega, by go_num, rfl, inferInstance, SepI.cast (Ent.sep (S := _) (T := Row 3 1 v1 ((G i).length + 1) (ints (G i) ++ [.int .i64 j]) * (Row 3 1 (.slice (some ⟨g, 0, none⟩) mm cc) mm (ints m) * (pts be (.cells #[.slice A bs.length c] 54 (0, 0)) * S))) inferInstance HS7) (by rw [HGI.out, HQ.out]; simp [ints])⟩
          case measure => (simp [intOf]; try omega)
      · have : i = mm := by omega
        subst this
        go_wp2
        go_ret2
        exact IntsOk.of (v := .slice A0 (G i).length c0) (Post.mk' (Ent.sep (S := _) inferInstance inferInstance) inferInstance)
end Go.Proofs.Ytnmbmdigiaokjaa
