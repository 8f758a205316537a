/- IdleRecovers by the program. Conditions: lengths within bounds. -/
import Derived.Test.YtnmbmdigiaokjaaJa
namespace Go.Proofs.Ytnmbmdigiaokjaa
open Go.RowKit SL
attribute [local go_sem] cell_blk frozen_blk lt_blk cell_at frozen_row lt_row
set_option linter.unusedVariables false
set_option linter.unusedSimpArgs false

theorem ev_lit0 {w : World} {g : Nat} {e : TypeId} {size : Nat} {F : HP} (H : SepI w (pts g (.cells #[] e (0, 0)) * F)) : SepI w (Row e size (.slice (some ⟨g, 0, none⟩) 0 0) 0 [] * F) := Row.lit0 H
theorem containsL (S : HP) (w : World) [H : SepI w S] (A : Option Addr) (c n : Nat) (l : List Int) [r : Rd S A (ints l)] (hl : n = l.length) (hn : n ≤ 1048576) (x : Int) (v : Bool) (hv : l.contains x = v) :
    Calls Try.prog 87 #[.slice A n c, .int .i64 x] w fun e w' => e = .returned (.bool v) ∧ Post w S w' := by
  subst hl
  exact containsI S w A c l hn x v hv
set_option maxRecDepth 100000 in
set_option maxHeartbeats 4000000 in
theorem impl_IdleRecovers (S : HP) (w : World) [H : SepI w S] (A : Option Addr) (c : Nat) (bs : List Bd) [r : Rd S A (cBds bs)] [B : Bodies S bs] (f : Int) :
    Calls Try.prog 45 #[.agg #[.slice A bs.length c], .int .i64 f] w (A2Ok S (idleAns (bs.map (·.l)) f) (funB (bs.map (·.l)) f) w) := by
  obtain ⟨ok, hok⟩ : ∃ ok, funB (bs.map (·.l)) f = ok := ⟨_, rfl⟩
  have HOK := Hd.mk hok
  rw [hok]
  have hn := B.n
  clear hok
  cases ok
  · have hans : idleAns (bs.map (·.l)) f = [] := by unfold idleAns; rw [HOK.out]; rfl
    rw [hans]
    clear hans
    go_enter Try.func45, Try.ntmps45
    go_wp2_with fail
    refine (impl_isFunction _ _ _ _ bs _ _ HOK.out).mono ?_
    rintro e w1 ⟨rfl, HP⟩
    have HS1 := HP.sep
    have HE1 := HP.ext
    clear HP
    go_wp2
    go_ret2
    exact A2Ok.nil (v := .slice none 0 0) (Post.mk' (Ent.sep (S := _) inferInstance (Row.nil0 HS1 93 2)) inferInstance)
  · obtain ⟨hv, k, rfl, hk⟩ := funB_of HOK.out
    rw [List.length_map] at hk
    obtain ⟨n, hnn⟩ : ∃ n, n = bs.length := ⟨_, rfl⟩
    have HN := Hd.mk hnn
    have HV := Hd.mk hv
    have HK := Hd.mk hk
    have hb8 : ∀ b ∈ bs.map (·.l), b.length ≤ 8 := (prog_small hv).2.2
    obtain ⟨hr6, hrf⟩ := reachN_ok HOK.out
    obtain ⟨rs, hrs⟩ : ∃ rs, rs = ascA (reachN (bs.map (·.l)) k 6) := ⟨_, rfl⟩
    have HRS := Hd.mk hrs
    obtain ⟨D, hD⟩ : ∃ D, D = defN (bs.map (·.l)) rs := ⟨_, rfl⟩
    have HD := Hd.mk hD
    have hans : idleAns (bs.map (·.l)) k = idleF (bs.map (·.l)) D rs := by unfold idleAns; rw [HOK.out, if_pos rfl, hD, hrs]
    rw [← hrs] at hr6 hrf
    rw [List.length_map, ← hnn] at hrf
    have HRF := Hd.mk hrf
    have HBD : Hd (∀ g x, bs[g]? = some x → bodyOf (bs.map (·.l)) ((g : Nat) : Int) = x.l ∧ x.l.length ≤ 8) := ⟨fun g x hx => ⟨bodyOf_at hx, hb8 _ (List.mem_map.2 ⟨x, List.mem_of_getElem? hx, rfl⟩)⟩⟩
    obtain ⟨lr, hlr⟩ : ∃ lr, lr = rs.length := ⟨_, rfl⟩
    have HLR := Hd.mk hlr
    rw [← hlr] at hr6
    obtain ⟨E, hE⟩ : ∃ E : Nat → List Int, E = fun i => defN (bs.map (·.l)) (rs.take i) := ⟨_, rfl⟩
    have HE0 : Hd (E 0 = []) := ⟨by rw [hE]; rfl⟩
    have HEM : Hd (E lr = D) := ⟨by rw [hE, hD, hlr]; simp only [List.take_length]⟩
    have HES : Hd (∀ i g, rs[i]? = some g → E (i + 1) = E i ++ ascA (callN kDf (bodyOf (bs.map (·.l)) g))) := ⟨fun i g h => by rw [hE]; unfold defN; exact flatMap_take_succ h⟩
    have HEL : Hd (∀ i, i ≤ 6 → (E i).length ≤ 48) := ⟨fun i hi => by
      rw [hE]
      have := defN_len hb8 (rs.take i)
      rw [List.length_take] at this
      simp only
      omega⟩
    obtain ⟨P, hP⟩ : ∃ P : Nat → List Int, P = fun i => idleF (bs.map (·.l)) D (rs.take i) := ⟨_, rfl⟩
    have HP0 : Hd (P 0 = []) := ⟨by rw [hP]; rfl⟩
    have HPM : Hd (P lr = idleF (bs.map (·.l)) D rs) := ⟨by rw [hP, hlr]; simp only [List.take_length]⟩
    have HPS : Hd (∀ i g, rs[i]? = some g → P (i + 1) = P i ++ idleOne (bs.map (·.l)) D g) := ⟨fun i g h => by rw [hP]; unfold idleF; exact flatMap_take_succ h⟩
    have HPV : Hd (∀ i, i ≤ 6 → (P i).length ≤ 96 ∧ ∃ m, (P i).length = m * 2) := ⟨fun i hi => by
      rw [hP]
      refine ⟨?_, idleF_even _ _ _⟩
      have := idleF_len hb8 D (rs.take i)
      rw [List.length_take] at this
      simp only
      omega⟩
    rw [hans, ← HPM.out]
    have HB := Hd.mk B
    have HR := Hd.mk r
    obtain ⟨b0, off, rfl⟩ := r.addr H (j := k) (by rw [cBds_len]; exact hk)
    clear hans hv hk hb8 hrf hnn hlr hrs hD hE hP
    go_enter Try.func45, Try.ntmps45
    obtain ⟨be, hbe⟩ : ∃ be, be = w.heap.size := ⟨_, rfl⟩
    go_wp2_with fail
    refine (impl_isFunction _ _ _ _ bs _ _ HOK.out).mono ?_
    rintro e w1 ⟨rfl, HP⟩
    have HS1 := HP.sep
    have HE1 := HP.ext
    clear HP
    rw [← hbe] at HS1 ⊢
    clear hbe
    obtain ⟨g6, hg6⟩ : ∃ g6, g6 = w1.heap.size := ⟨_, rfl⟩
    go_wp2_with fail
    have hC := @impl_reached _ _ (Row.lit0 (size := 2) (SepI.i_alloc w1 (.cells #[] 93 (0, 0)) _ w1.heap.size)) (some ⟨b0, off, none⟩) c bs inferInstance inferInstance HV.out k HK.out
    rw [← HRS.out, ← HLR.out] at hC
    refine hC.mono ?_
    rintro e w2 ⟨v2, rfl, HP⟩
    rw [← hg6] at HP ⊢
    have HS2 := HP.sep
    have HE2 := HP.ext
    clear HP hC hg6
    obtain ⟨AR, cr, rfl, hcr, hcr2⟩ := Row.form HS2
    rw [← HN.out]
    rw [← HN.out] at HS2
    obtain ⟨g8, hg8⟩ : ∃ g8, g8 = w2.heap.size := ⟨_, rfl⟩
    have hlit : SepI (w2.alloc (.cells #[] 3 (0, 0))) (Row 3 1 (.slice (some ⟨g8, 0, none⟩) 0 0) 0 [] * (Row 3 1 (.slice AR lr cr) lr (ints rs) * (Row 93 2 (.slice (some ⟨g6, 0, none⟩) 0 0) 0 [] * (pts be (.cells #[.slice (some ⟨b0, off, none⟩) n c] 54 (0, 0)) * S)))) := by rw [hg8]; exact Row.lit0 (SepI.i_alloc w2 (.cells #[] 3 (0, 0)) _ _)
    go_wp2
    rw [← hg8]
    clear hg8
    go_loopw [8, 26] (fun v8 v26 wr => ∃ (i : Nat) (vv : Value), i ≤ lr ∧ v26 = .int .i64 i ∧ v8 = vv ∧ ExtI w wr ∧ SepI wr (Row 3 1 vv (E i).length (ints (E i)) * (Row 3 1 (.slice AR lr cr) lr (ints rs) * (Row 93 2 (.slice (some ⟨g6, 0, none⟩) 0 0) 0 [] * (pts be (.cells #[.slice (some ⟨b0, off, none⟩) n c] 54 (0, 0)) * S))))) (fun _ v _ => lr - (intOf v).toNat)
    case atStart => exact ⟨0, .slice (some ⟨g8, 0, none⟩) 0 0, by omega, rfl, rfl, inferInstance, SepI.cast hlit (by rw [HE0.out]; rfl)⟩
    case round =>
      obtain ⟨i, vv, hi, rfl, rfl, HX3, HS3⟩ := hrel
      obtain ⟨A8, c8, rfl, hc8, hc8'⟩ := Row.form HS3
      by_cases hlt : i < lr
      · obtain ⟨y, hy⟩ := get_ex (xs := rs) (k := i) (by rw [← HLR.out]; exact hlt)
        obtain ⟨g, rfl, hg⟩ := HRF.out y (List.mem_of_getElem? hy)
        obtain ⟨x, hx⟩ := get_ex (xs := bs) (k := g) (by rw [← HN.out]; exact hg)
        obtain ⟨hbx, hx8⟩ := HBD.out g x hx
        obtain ⟨gr, rfl⟩ := Row.addr (SepI.cast HS3 (star_left _ _ _)) (by omega)
        have d1 : CellAt _ gr i _ := Row.cellAt (e := 3) (size := 1) (g := gr) (n := lr) (c := cr) (F := Row 93 2 (.slice (some ⟨g6, 0, none⟩) 0 0) 0 [] * (pts be (.cells #[.slice (some ⟨b0, off, none⟩) n c] 54 (0, 0)) * S)) (ints_get hy)
        have d2 := HR.out.cell (cBds_get hx)
        have rx := HB.out.rd x (List.mem_of_getElem? hx)
        have hes := HES.out i _ hy
        rw [hbx] at hes
        have HEI := Hd.mk hes
        have hel := HEL.out i (by omega)
        have hcl : (ascA (callN kDf x.l)).length ≤ 8 := by
          have h1 := ascA_len (callN kDf x.l)
          have h2 := callN_len kDf x.l
          omega
        clear hy hx hbx hes
        go_wp2_with fail
        refine (impl_called _ _ x.p x.c x.l hx8 _ 1 [5] (rk := rd_one 5) (by simp)).mono ?_
        rintro e w4 ⟨v4, rfl, HP⟩
        rw [kDf_eq] at HP
        have HS4 := HP.sep
        have HE4 := HP.ext
        clear HP
        obtain ⟨A4, c4, rfl, hc4, hc4'⟩ := Row.form HS4
        have hA4 := Row.none_len HS4
        go_wp2_with (at_builtin; go_must (refine ev_appendR (v := .slice A8 (E i).length c8) rfl _ _ 34 rfl rfl 8 _ Try.underlying34 info_int rfl (by decide) (by decide) A4 (ascA (callN kDf x.l)).length c4 rfl (news := ints (ascA (callN kDf x.l))) hA4 (by rw [ints_len, Nat.mul_one]) (ints_one _) (by omega) ?_); intro v1 w5 HS5 HE5)
        go_roundw
        case rel => exact ⟨i + 1, v1, by omega, by go_num, rfl, inferInstance, SepI.cast (Ent.sep (S := _) (T := Row 3 1 v1 ((E i).length + (ascA (callN kDf x.l)).length) (ints (E i) ++ ints (ascA (callN kDf x.l))) * (Row 3 1 (.slice (some ⟨gr, 0, none⟩) lr cr) lr (ints rs) * (Row 93 2 (.slice (some ⟨g6, 0, none⟩) 0 0) 0 [] * (pts be (.cells #[.slice (some ⟨b0, off, none⟩) n c] 54 (0, 0)) * S)))) inferInstance HS5) (by rw [HEI.out, ints_append, List.length_append])⟩
        case measure => (simp [intOf]; try omega)
      · obtain rfl : lr = i := by omega
        obtain ⟨ld, hld⟩ : ∃ ld, ld = D.length := ⟨_, rfl⟩
        have HLD := Hd.mk hld
        have hld48 : ld ≤ 48 := by rw [hld, ← HEM.out]; exact HEL.out lr (by omega)
        clear hld
        obtain ⟨AD, hAD⟩ : ∃ AD, AD = A8 := ⟨_, rfl⟩
        obtain ⟨cd, hcd⟩ : ∃ cd, cd = c8 := ⟨_, rfl⟩
        rw [HEM.out, ← HLD.out, ← hAD, ← hcd] at HS3
        rw [HEM.out, ← HLD.out, ← hAD, ← hcd]
        rw [HEM.out, ← HLD.out, ← hcd] at hc8
        clear hAD hcd
        go_wp2
        go_loopw [6, 42] (fun v6 v42 wr => ∃ (i : Nat) (vv : Value), i ≤ lr ∧ v42 = .int .i64 i ∧ v6 = vv ∧ ExtI w wr ∧ SepI wr (Row 93 2 vv ((P i).length / 2) (ints (P i)) * (Row 3 1 (.slice AD ld cd) ld (ints D) * (Row 3 1 (.slice AR lr cr) lr (ints rs) * (pts be (.cells #[.slice (some ⟨b0, off, none⟩) n c] 54 (0, 0)) * S))))) (fun _ v _ => lr - (intOf v).toNat)
        case atStart => exact ⟨0, .slice (some ⟨g6, 0, none⟩) 0 0, by omega, rfl, rfl, inferInstance, SepI.cast (Ent.sep (S := _) (T := Row 93 2 (.slice (some ⟨g6, 0, none⟩) 0 0) 0 [] * (Row 3 1 (.slice AD ld cd) ld (ints D) * (Row 3 1 (.slice AR lr cr) lr (ints rs) * (pts be (.cells #[.slice (some ⟨b0, off, none⟩) n c] 54 (0, 0)) * S)))) inferInstance HS3) (by rw [HP0.out]; rfl)⟩
        case round =>
          obtain ⟨i, vv, hi, rfl, rfl, HX6, HS6⟩ := hrel
          obtain ⟨A6, c6, rfl, hc6, hc6'⟩ := Row.form HS6
          by_cases hlt2 : i < lr
          · obtain ⟨y, hy⟩ := get_ex (xs := rs) (k := i) (by rw [← HLR.out]; exact hlt2)
            obtain ⟨g, rfl, hg⟩ := HRF.out y (List.mem_of_getElem? hy)
            obtain ⟨x, hx⟩ := get_ex (xs := bs) (k := g) (by rw [← HN.out]; exact hg)
            obtain ⟨hbx, hx8⟩ := HBD.out g x hx
            obtain ⟨gr, rfl⟩ := Row.addr (A := AR) (e := 3) (size := 1) (n := lr) (c := cr) (cs := ints rs) (F := Row 93 2 (.slice A6 ((P i).length / 2) c6) ((P i).length / 2) (ints (P i)) * (Row 3 1 (.slice AD ld cd) ld (ints D) * (pts be (.cells #[.slice (some ⟨b0, off, none⟩) n c] 54 (0, 0)) * S))) (SepI.pick HS6 inferInstance) (by omega)
            have d1 : CellAt _ gr i _ := Row.cellAt (e := 3) (size := 1) (g := gr) (n := lr) (c := cr) (F := (pts be (.cells #[.slice (some ⟨b0, off, none⟩) n c] 54 (0, 0)) * S)) (ints_get hy)
            have d2 := HR.out.cell (cBds_get hx)
            have rx := HB.out.rd x (List.mem_of_getElem? hx)
            obtain ⟨q, hq⟩ : ∃ q, D.contains (g : Int) = q := ⟨_, rfl⟩
            have HQ := Hd.mk hq
            obtain ⟨m, hm⟩ : ∃ m, m = x.l.length := ⟨_, rfl⟩
            have HM := Hd.mk hm
            obtain ⟨px, hpx⟩ : ∃ px, px = x.p := ⟨_, rfl⟩
            rw [← hpx] at d2 rx
            rw [← hm] at hx8 d2
            clear hpx
            have hps := HPS.out i _ hy
            obtain ⟨Q, hQ⟩ : ∃ Q : Nat → List Int, Q = fun j => P i ++ (if q then [] else pr g (recN x.l j)) := ⟨_, rfl⟩
            have HQ0 : Hd (Q 0 = P i) := ⟨by rw [hQ]; cases q <;> simp [pr, recN]⟩
            have HQM : Hd (Q m = P (i + 1)) := ⟨by rw [hQ, hps]; unfold idleOne; rw [hq, hbx, hm]⟩
            have HQS : Hd (∀ j, Q (j + 1) = if recB x.l j && !q then Q j ++ [(g : Int), (j : Int)] else Q j) := ⟨fun j => by
              rw [hQ]
              simp only
              rw [recN_succ]
              cases q <;> cases recB x.l j <;> simp [pr_snoc]⟩
            have HQV : Hd (∀ j, j ≤ m → (Q j).length ≤ 200 ∧ ∃ t, (Q j).length = t * 2) := ⟨fun j hj => by
              obtain ⟨h1, t, h2⟩ := HPV.out i (by omega)
              have h3 := recN_len x.l j
              have h4 := pr_len g (recN x.l j)
              rw [hQ]
              cases q
              · rw [show (P i ++ (if false = true then [] else pr (g : Int) (recN x.l j))).length = (P i).length + (pr (g : Int) (recN x.l j)).length by simp]
                exact ⟨by omega, ⟨t + (recN x.l j).length, by omega⟩⟩
              · rw [show (P i ++ (if true = true then [] else pr (g : Int) (recN x.l j))).length = (P i).length by simp]
                exact ⟨by omega, ⟨t, by omega⟩⟩⟩
            clear hy hx hbx hq hm hps hQ
            go_wp2
            go_loopw [6, 52] (fun v6 v52 wx => ∃ (j : Nat) (vv : Value), j ≤ m ∧ v52 = .int .i64 j ∧ v6 = vv ∧ ExtI w wx ∧ SepI wx (Row 93 2 vv ((Q j).length / 2) (ints (Q j)) * (Row 3 1 (.slice AD ld cd) ld (ints D) * (Row 3 1 (.slice (some ⟨gr, 0, none⟩) lr cr) lr (ints rs) * (pts be (.cells #[.slice (some ⟨b0, off, none⟩) n c] 54 (0, 0)) * S))))) (fun _ v _ => m - (intOf v).toNat)
            case atStart => exact ⟨0, .slice A6 ((P i).length / 2) c6, by omega, rfl, rfl, inferInstance, SepI.cast HS6 (by rw [HQ0.out])⟩
            case round =>
              obtain ⟨j, vv, hj, rfl, rfl, HX7, HS7⟩ := hrel
              obtain ⟨A7, c7, rfl, hc7, hc7'⟩ := Row.form HS7
              by_cases hlj : j < m
              · obtain ⟨s, hs⟩ := get_ex (xs := x.l) (k := j) (by rw [← HM.out]; exact hlj)
                obtain ⟨bp, op, rfl⟩ := rx.addr H (j := j) (by rw [cSts_len, ← HM.out]; omega)
                have e1 := rx.cell (cSts_get hs).1
                have e2 := rx.cell (cSts_get hs).2.1
                have e3 := rx.cell (cSts_get hs).2.2
                obtain ⟨k7, hk7⟩ : ∃ k7, (s.k == 7) = k7 := ⟨_, rfl⟩
                have hqs := HQS.out j
                have hrb : recB x.l j = k7 := by unfold recB; rw [hs]; exact hk7
                rw [hrb] at hqs
                have HQI := Hd.mk hqs
                obtain ⟨hq1, tt, hq2⟩ := HQV.out j (by omega)
                have HQ2 := Hd.mk hq2
                clear hs hrb hqs hq2
                cases k7
                · go_wp2
                  go_roundw
                  case rel => exact ⟨j + 1, .slice A7 ((Q j).length / 2) c7, by omega, by go_num, rfl, inferInstance, SepI.cast (Ent.sep (S := _) (T := Row 93 2 (.slice A7 ((Q j).length / 2) c7) ((Q j).length / 2) (ints (Q j)) * (Row 3 1 (.slice AD ld cd) ld (ints D) * (Row 3 1 (.slice (some ⟨gr, 0, none⟩) lr cr) lr (ints rs) * (pts be (.cells #[.slice (some ⟨b0, off, none⟩) n c] 54 (0, 0)) * S)))) inferInstance inferInstance) (by rw [HQI.out]; rfl)⟩
                  case measure => (simp [intOf]; try omega)
                · go_wp2_with fail
                  refine (containsL _ _ AD cd ld D HLD.out (by omega) (g : Int) _ HQ.out).mono ?_
                  rintro e w8 ⟨rfl, HP⟩
                  have HS8 := HP.sep
                  have HE8 := HP.ext
                  clear HP
                  cases q
                  · go_wp2_with (at_builtin; go_must (refine ev_append (v := .slice A7 ((Q j).length / 2) c7) rfl _ _ 59 rfl rfl 16 _ Try.underlying59 info_A2 rfl (by decide) (by decide) w8.heap.size 1 1 rfl rfl (by simp [Value.oneCell']) (by omega) ?_); intro v1 w9 HS9 HE9)
                    go_roundw
                    case rel => exact ⟨j + 1, v1, by omega, by go_num, rfl, inferInstance, SepI.cast (Ent.sep (S := _) (T := Row 93 2 v1 ((Q j).length / 2 + 1) (ints (Q j) ++ [.int .i64 g, .int .i64 j]) * (Row 3 1 (.slice AD ld cd) ld (ints D) * (Row 3 1 (.slice (some ⟨gr, 0, none⟩) lr cr) lr (ints rs) * (pts be (.cells #[.slice (some ⟨b0, off, none⟩) n c] 54 (0, 0)) * S)))) inferInstance HS9) (by rw [HQI.out, show (if (true && !false) = true then Q j ++ [(g : Int), (j : Int)] else Q j) = Q j ++ [(g : Int), (j : Int)] from rfl, ints_append, List.length_append, show ((Q j).length + [(g : Int), (j : Int)].length) / 2 = (Q j).length / 2 + 1 by simp only [List.length_cons, List.length_nil]; have := HQ2.out; omega]; rfl)⟩
                    case measure => (simp [intOf]; try omega)
                  · go_wp2
                    go_roundw
                    case rel => exact ⟨j + 1, .slice A7 ((Q j).length / 2) c7, by omega, by go_num, rfl, inferInstance, SepI.cast (Ent.sep (S := _) (T := Row 93 2 (.slice A7 ((Q j).length / 2) c7) ((Q j).length / 2) (ints (Q j)) * (Row 3 1 (.slice AD ld cd) ld (ints D) * (Row 3 1 (.slice (some ⟨gr, 0, none⟩) lr cr) lr (ints rs) * (pts be (.cells #[.slice (some ⟨b0, off, none⟩) n c] 54 (0, 0)) * S)))) inferInstance inferInstance) (by rw [HQI.out]; rfl)⟩
                    case measure => (simp [intOf]; try omega)
              · obtain rfl : m = j := by omega
                go_wp2
                go_roundw
                case rel => exact ⟨i + 1, .slice A7 ((Q m).length / 2) c7, by omega, by go_num, by rw [HQM.out], inferInstance, SepI.cast (Ent.sep (S := _) (T := Row 93 2 (.slice A7 ((Q m).length / 2) c7) ((Q m).length / 2) (ints (Q m)) * (Row 3 1 (.slice AD ld cd) ld (ints D) * (Row 3 1 (.slice (some ⟨gr, 0, none⟩) lr cr) lr (ints rs) * (pts be (.cells #[.slice (some ⟨b0, off, none⟩) n c] 54 (0, 0)) * S)))) inferInstance HS7) (by rw [HQM.out])⟩
                case measure => (simp [intOf]; try omega)
          · obtain rfl : lr = i := by omega
            go_wp2
            go_ret2
            exact A2Ok.of (v := .slice A6 ((P lr).length / 2) c6) (Post.mk' (Ent.sep (S := _) inferInstance inferInstance) inferInstance)
end Go.Proofs.Ytnmbmdigiaokjaa
