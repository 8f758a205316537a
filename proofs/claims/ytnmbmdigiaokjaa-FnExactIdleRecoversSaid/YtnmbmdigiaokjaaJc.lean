/- IdleRecovers by the reference. Conditions: lengths within bounds. -/
import Derived.Test.YtnmbmdigiaokjaaJb
namespace Go.Proofs.Ytnmbmdigiaokjaa
open Go.RowKit SL
attribute [local go_sem] cell_blk frozen_blk lt_blk cell_at frozen_row lt_row
set_option linter.unusedVariables false
set_option linter.unusedSimpArgs false

theorem l1HasL (S : HP) (w : World) [H : SepI w S] (A : Option Addr) (c n : Nat) (l : List Int) [r : Rd S A (ints l)] (hl : n = l.length) (hn : n ≤ 1048576) (x : Int) (v : Bool) (hv : l.contains x = v) :
    Calls Try.prog 86 #[.slice A n c, .int .i64 x] w fun e w' => e = .returned (.bool v) ∧ w' = w := by
  subst hl
  exact spec_l1Has S w A c l hn x v hv
set_option maxRecDepth 100000 in
set_option maxHeartbeats 4000000 in
theorem spec_IdleRecovers (S : HP) (w : World) [H : SepI w S] (A : Option Addr) (c : Nat) (bs : List Bd) [r : Rd S A (cBds bs)] [B : Bodies S bs] (f : Int) :
    Calls Try.prog 44 #[.agg #[.slice A bs.length c], .int .i64 f] w (A2Ok S (idleAns (bs.map (·.l)) f) (funB (bs.map (·.l)) f) w) := by
  obtain ⟨ok, hok⟩ : ∃ ok, funB (bs.map (·.l)) f = ok := ⟨_, rfl⟩
  have HOK := Hd.mk hok
  rw [hok]
  have hn := B.n
  obtain ⟨p, hp⟩ : ∃ p, progB (bs.map (·.l)) = p := ⟨_, rfl⟩
  obtain ⟨q, hq⟩ : ∃ q, inB f 0 ((bs.length : Int) - 1) = q := ⟨_, rfl⟩
  have HP0' := Hd.mk hp
  have HQ0' := Hd.mk hq
  have hpq : ok = (p && q) := by rw [← hok]; unfold funB; rw [List.length_map, hp, hq]
  clear hok hp hq
  have hlit : SepI (w.alloc (.cells #[.slice A bs.length c] 54 (0, 0)) |>.alloc (.cells #[] 93 (0, 0))) (Row 93 2 (.slice (some ⟨w.heap.size + 1, 0, none⟩) 0 0) 0 [] * (pts w.heap.size (.cells #[.slice A bs.length c] 54 (0, 0)) * S)) :=
    Row.lit0 (SepI.i_alloc _ (.cells #[] 93 (0, 0)) _ _)
  cases p
  · subst hpq
    have hans : idleAns (bs.map (·.l)) f = [] := by unfold idleAns; rw [HOK.out]; rfl
    rw [hans]
    clear hans
    go_enter Try.func44, Try.ntmps44
    go_wp2_with fail
    refine (spec_l2Program _ _ (H := hlit) _ _ bs).mono ?_
    rintro e w1 ⟨rfl, HP⟩
    rw [HP0'.out]
    have HS1 := HP.sep
    have HE1 := HP.ext
    clear HP
    go_wp2
    go_ret2
    exact A2Ok.nil (v := .slice (some ⟨w.heap.size + 1, 0, none⟩) 0 0) (Post.mk' (Ent.sep (S := _) inferInstance inferInstance) inferInstance)
  cases q
  · subst hpq
    have hans : idleAns (bs.map (·.l)) f = [] := by unfold idleAns; rw [HOK.out]; rfl
    rw [hans]
    clear hans
    go_enter Try.func44, Try.ntmps44
    go_wp2_with fail
    refine (spec_l2Program _ _ (H := hlit) _ _ bs).mono ?_
    rintro e w1 ⟨rfl, HP⟩
    rw [HP0'.out]
    have HS1 := HP.sep
    have HE1 := HP.ext
    clear HP
    go_wp2_with fail
    refine (spec_l2Function _ _ _ _ _ _ _ (by omega) HQ0'.out).mono ?_
    rintro e w2 ⟨rfl, HP⟩
    have HS2 := HP.sep
    have HE2 := HP.ext
    clear HP
    go_wp2
    go_ret2
    exact A2Ok.nil (v := .slice (some ⟨w.heap.size + 1, 0, none⟩) 0 0) (Post.mk' (Ent.sep (S := _) inferInstance inferInstance) inferInstance)
  · subst hpq
    obtain ⟨hv, k, rfl, hk⟩ := funB_of HOK.out
    rw [List.length_map] at hk
    obtain ⟨n, hnn⟩ : ∃ n, n = bs.length := ⟨_, rfl⟩
    have HN := Hd.mk hnn
    have HV := Hd.mk hv
    have HK := Hd.mk hk
    have hb8 : ∀ b ∈ bs.map (·.l), b.length ≤ 8 := (prog_small hv).2.2
    obtain ⟨hr6, hrf⟩ := reachN_ok HOK.out
    obtain ⟨rs, hrs⟩ : ∃ rs, rs = ascA (reachN (bs.map (·.l)) k 6) := ⟨_, rfl⟩
    have HRS := Hd.mk hrs
    obtain ⟨D, hD⟩ : ∃ D, D = defN (bs.map (·.l)) rs := ⟨_, rfl⟩
    have HD := Hd.mk hD
    have hans : idleAns (bs.map (·.l)) k = idleF (bs.map (·.l)) D rs := by unfold idleAns; rw [show funB (bs.map (·.l)) k = true from HOK.out, if_pos rfl, hD, hrs]
    rw [← hrs] at hr6 hrf
    rw [List.length_map, ← hnn] at hrf
    have HRF := Hd.mk hrf
    have HBD : Hd (∀ g x, bs[g]? = some x → bodyOf (bs.map (·.l)) ((g : Nat) : Int) = x.l ∧ x.l.length ≤ 8) := ⟨fun g x hx => ⟨bodyOf_at hx, hb8 _ (List.mem_map.2 ⟨x, List.mem_of_getElem? hx, rfl⟩)⟩⟩
    obtain ⟨lr, hlr⟩ : ∃ lr, lr = rs.length := ⟨_, rfl⟩
    have HLR := Hd.mk hlr
    rw [← hlr] at hr6
    obtain ⟨E, hE⟩ : ∃ E : Nat → List Int, E = fun i => defN (bs.map (·.l)) (rs.take i) := ⟨_, rfl⟩
    have HE0 : Hd (E 0 = []) := ⟨by rw [hE]; rfl⟩
    have HEM : Hd (E lr = D) := ⟨by rw [hE, hD, hlr]; simp only [List.take_length]⟩
    have HES : Hd (∀ i g, rs[i]? = some g → E (i + 1) = E i ++ ascA (callN kDf (bodyOf (bs.map (·.l)) g))) := ⟨fun i g h => by rw [hE]; unfold defN; exact flatMap_take_succ h⟩
    have HEL : Hd (∀ i, i ≤ 6 → (E i).length ≤ 48) := ⟨fun i hi => by
      rw [hE]
      have := defN_len hb8 (rs.take i)
      rw [List.length_take] at this
      simp only
      omega⟩
    obtain ⟨P, hP⟩ : ∃ P : Nat → List Int, P = fun i => idleF (bs.map (·.l)) D (rs.take i) := ⟨_, rfl⟩
    have HPP0 : Hd (P 0 = []) := ⟨by rw [hP]; rfl⟩
    have HPM : Hd (P lr = idleF (bs.map (·.l)) D rs) := ⟨by rw [hP, hlr]; simp only [List.take_length]⟩
    have HPS : Hd (∀ i g, rs[i]? = some g → P (i + 1) = P i ++ idleOne (bs.map (·.l)) D g) := ⟨fun i g h => by rw [hP]; unfold idleF; exact flatMap_take_succ h⟩
    have HPV : Hd (∀ i, i ≤ 6 → (P i).length ≤ 96 ∧ ∃ m, (P i).length = m * 2) := ⟨fun i hi => by
      rw [hP]
      refine ⟨?_, idleF_even _ _ _⟩
      have := idleF_len hb8 D (rs.take i)
      rw [List.length_take] at this
      simp only
      omega⟩
    rw [hans, ← HPM.out]
    have HB := Hd.mk B
    have HR := Hd.mk r
    obtain ⟨b0, off, rfl⟩ := r.addr H (j := k) (by rw [cBds_len]; exact hk)
    have HAC : Hd (∀ y, (ascA D).contains y = D.contains y) := ⟨fun y => ascA_contains D y⟩
    clear hans hv hk hb8 hrf hnn hlr hrs hD hE hP
    go_enter Try.func44, Try.ntmps44
    go_wp2_with fail
    refine (spec_l2Program _ _ (H := hlit) _ _ bs).mono ?_
    rintro e w1 ⟨rfl, HP⟩
    rw [HP0'.out]
    have HS1 := HP.sep
    have HE1 := HP.ext
    clear HP
    go_wp2_with fail
    refine (spec_l2Function _ _ _ _ _ _ _ (by omega) HQ0'.out).mono ?_
    rintro e w2 ⟨rfl, HP⟩
    have HS2 := HP.sep
    have HE2 := HP.ext
    clear HP
    obtain ⟨be, hbe⟩ : ∃ be, be = w.heap.size := ⟨_, rfl⟩
    rw [← hbe] at HS2 ⊢
    obtain ⟨g6, hg6⟩ : ∃ g6, g6 = be + 1 := ⟨_, rfl⟩
    rw [← hg6] at HS2 ⊢
    clear hbe HS1 hlit hg6
    go_wp2_with fail
    have hC := spec_l2Reach _ w2 (some ⟨b0, off, none⟩) c bs HV.out k HK.out
    rw [← HRS.out, ← HLR.out] at hC
    refine hC.mono ?_
    rintro e w3 ⟨gr, cr, rfl, HP⟩
    have HS3 := HP.sep
    have HE3 := HP.ext
    clear HP hC HS2
    rw [← HN.out]
    rw [← HN.out] at HS3
    obtain ⟨g8, hg8⟩ : ∃ g8, g8 = w3.heap.size := ⟨_, rfl⟩
    have hlit : SepI (w3.alloc (.cells #[] 3 (0, 0))) (Row 3 1 (.slice (some ⟨g8, 0, none⟩) 0 0) 0 [] * (Row 3 1 (.slice (some ⟨gr, 0, none⟩) lr cr) lr (ints rs) * (Row 93 2 (.slice (some ⟨g6, 0, none⟩) 0 0) 0 [] * (pts be (.cells #[.slice (some ⟨b0, off, none⟩) n c] 54 (0, 0)) * S)))) := by rw [hg8]; exact Row.lit0 (SepI.i_alloc w3 (.cells #[] 3 (0, 0)) _ _)
    go_wp2
    rw [← hg8]
    clear hg8
    go_loopw [8, 9] (fun v8 v9 wr => ∃ (i G C : Nat), i ≤ lr ∧ v9 = .int .i64 i ∧ v8 = .slice (some ⟨G, 0, none⟩) (ascA (E i)).length C ∧ ExtI w wr ∧ SepI wr (Row 3 1 (.slice (some ⟨G, 0, none⟩) (ascA (E i)).length C) (ascA (E i)).length (ints (ascA (E i))) * (Row 3 1 (.slice (some ⟨gr, 0, none⟩) lr cr) lr (ints rs) * (Row 93 2 (.slice (some ⟨g6, 0, none⟩) 0 0) 0 [] * (pts be (.cells #[.slice (some ⟨b0, off, none⟩) n c] 54 (0, 0)) * S))))) (fun _ v _ => lr - (intOf v).toNat)
    case atStart => exact ⟨0, g8, 0, by omega, rfl, by rw [HE0.out]; rfl, inferInstance, SepI.cast hlit (by rw [HE0.out]; rfl)⟩
    case round =>
      obtain ⟨i, G, C, hi, rfl, rfl, HX4, HS4⟩ := hrel
      by_cases hlt : i < lr
      · obtain ⟨y, hy⟩ := get_ex (xs := rs) (k := i) (by rw [← HLR.out]; exact hlt)
        obtain ⟨g, rfl, hg⟩ := HRF.out y (List.mem_of_getElem? hy)
        obtain ⟨x, hx⟩ := get_ex (xs := bs) (k := g) (by rw [← HN.out]; exact hg)
        obtain ⟨hbx, hx8⟩ := HBD.out g x hx
        have d1 : CellAt _ gr i _ := Row.cellAt (e := 3) (size := 1) (g := gr) (n := lr) (c := cr) (F := Row 93 2 (.slice (some ⟨g6, 0, none⟩) 0 0) 0 [] * (pts be (.cells #[.slice (some ⟨b0, off, none⟩) n c] 54 (0, 0)) * S)) (ints_get hy)
        have hes := HES.out i _ hy
        rw [hbx] at hes
        have hel := HEL.out i (by omega)
        have hcl : (ascA (callN kDf x.l)).length ≤ 8 := by
          have h1 := ascA_len (callN kDf x.l)
          have h2 := callN_len kDf x.l
          omega
        obtain ⟨cs, hcs⟩ : ∃ cs, cs = ascA (callN kDf x.l) := ⟨_, rfl⟩
        have HCS := Hd.mk hcs
        obtain ⟨lc, hlc⟩ : ∃ lc, lc = cs.length := ⟨_, rfl⟩
        have HLC := Hd.mk hlc
        rw [← hcs, ← hlc] at hcl
        obtain ⟨I, hI⟩ : ∃ I : Nat → List Int, I = fun t => (cs.take t).foldl putA (ascA (E i)) := ⟨_, rfl⟩
        have HI0 : Hd (I 0 = ascA (E i)) := ⟨by rw [hI]; rfl⟩
        have HIM : Hd (I lc = ascA (E (i + 1))) := ⟨by rw [hI, hes, ascA_app_asc, hlc, hcs]; simp only [List.take_length]⟩
        have HIS : Hd (∀ t y, cs[t]? = some y → I (t + 1) = putA (I t) y) := ⟨fun t y h => by rw [hI]; simp only; rw [take_succ_eq h, List.foldl_append]; rfl⟩
        have HIL : Hd (∀ t, (I t).length ≤ 56) := ⟨fun t => by
          rw [hI]
          have h1 := ascA_len (E i ++ cs.take t)
          have h2 : ascA (E i ++ cs.take t) = (cs.take t).foldl putA (ascA (E i)) := by unfold ascA; rw [List.foldl_append]
          rw [h2, List.length_append, List.length_take] at h1
          simp only
          omega⟩
        have HX0 := Hd.mk hx
        clear hy hx hbx hes hcs hlc hI
        go_wp2_with fail
        go_still_tail 5, (by kernel_rfl)
        change wpList _ _ _ _ _ wr.drew
        go_wp2_with fail
        have hC := spec_l5Defers _ wr.drew (some ⟨b0, off, none⟩) c bs g x HX0.out hx8
        rw [← HN.out, ← HCS.out, ← HLC.out] at hC
        refine hC.mono ?_
        rintro e w5 ⟨gc, cc, rfl, HP⟩
        have HS5 := HP.sep
        have HE5 := HP.ext
        clear HP hC
        go_wp2
        go_loopw [8, 11] (fun v8 v11 wx => ∃ (t G8 C8 : Nat), t ≤ lc ∧ v11 = .int .i64 t ∧ v8 = .slice (some ⟨G8, 0, none⟩) (I t).length C8 ∧ ExtI w wx ∧ SepI wx (Row 3 1 (.slice (some ⟨G8, 0, none⟩) (I t).length C8) (I t).length (ints (I t)) * (Row 3 1 (.slice (some ⟨gc, 0, none⟩) lc cc) lc (ints cs) * (Row 3 1 (.slice (some ⟨gr, 0, none⟩) lr cr) lr (ints rs) * (Row 93 2 (.slice (some ⟨g6, 0, none⟩) 0 0) 0 [] * (pts be (.cells #[.slice (some ⟨b0, off, none⟩) n c] 54 (0, 0)) * S)))))) (fun _ v _ => lc - (intOf v).toNat)
        case atStart => exact ⟨0, G, C, by omega, rfl, by rw [HI0.out], inferInstance, SepI.cast (Ent.sep (S := _) (T := Row 3 1 (.slice (some ⟨G, 0, none⟩) (ascA (E i)).length C) (ascA (E i)).length (ints (ascA (E i))) * (Row 3 1 (.slice (some ⟨gc, 0, none⟩) lc cc) lc (ints cs) * (Row 3 1 (.slice (some ⟨gr, 0, none⟩) lr cr) lr (ints rs) * (Row 93 2 (.slice (some ⟨g6, 0, none⟩) 0 0) 0 [] * (pts be (.cells #[.slice (some ⟨b0, off, none⟩) n c] 54 (0, 0)) * S))))) inferInstance HS5) (by rw [HI0.out])⟩
        case round =>
          obtain ⟨t, G8, C8, ht, rfl, rfl, HX6, HS6⟩ := hrel
          by_cases hlk : t < lc
          · obtain ⟨y, hy⟩ := get_ex (xs := cs) (k := t) (by rw [← HLC.out]; exact hlk)
            have e0 : CellAt _ gc t _ := Row.cellAt (e := 3) (size := 1) (g := gc) (n := lc) (c := cc) (F := Row 3 1 (.slice (some ⟨gr, 0, none⟩) lr cr) lr (ints rs) * (Row 93 2 (.slice (some ⟨g6, 0, none⟩) 0 0) 0 [] * (pts be (.cells #[.slice (some ⟨b0, off, none⟩) n c] 54 (0, 0)) * S))) (ints_get hy)
            have hil := HIL.out t
            have HSN := Hd.mk (HIS.out t y hy)
            clear hy
            go_wp2_with fail
            refine (l1Put_some (Row 3 1 (.slice (some ⟨gc, 0, none⟩) lc cc) lc (ints cs) * (Row 3 1 (.slice (some ⟨gr, 0, none⟩) lr cr) lr (ints rs) * (Row 93 2 (.slice (some ⟨g6, 0, none⟩) 0 0) 0 [] * (pts be (.cells #[.slice (some ⟨b0, off, none⟩) n c] 54 (0, 0)) * S)))) _ G8 C8 (I t) HS6 (by omega) y).mono ?_
            rintro e w7 ⟨v7, rfl, HP7⟩
            rw [← HSN.out] at HP7
            have HS7 := HP7.sep
            have HE7 := HP7.ext
            have hpos : 0 < (I (t + 1)).length := by rw [HSN.out]; exact (putA_len _ _).2
            clear HP7
            obtain ⟨A7, c7, rfl, _, _⟩ := Row.form HS7
            obtain ⟨g7, rfl⟩ := Row.addr HS7 hpos
            clear hpos
            go_wp2
            go_roundw
            case rel => exact ⟨t + 1, g7, c7, by omega, by go_num, rfl, inferInstance, HS7⟩
            case measure => (simp [intOf]; try omega)
          · obtain rfl : lc = t := by omega
            go_wp2
            go_roundw
            case rel => exact ⟨i + 1, G8, C8, by omega, by go_num, by rw [HIM.out], inferInstance, SepI.cast (Ent.sep (S := _) (T := Row 3 1 (.slice (some ⟨G8, 0, none⟩) (I lc).length C8) (I lc).length (ints (I lc)) * (Row 3 1 (.slice (some ⟨gr, 0, none⟩) lr cr) lr (ints rs) * (Row 93 2 (.slice (some ⟨g6, 0, none⟩) 0 0) 0 [] * (pts be (.cells #[.slice (some ⟨b0, off, none⟩) n c] 54 (0, 0)) * S)))) inferInstance HS6) (by rw [HIM.out])⟩
            case measure => (simp [intOf]; try omega)
      · obtain rfl : lr = i := by omega
        obtain ⟨AD, hAD⟩ : ∃ AD, AD = ascA D := ⟨_, rfl⟩
        have HAD : Hd (∀ y, AD.contains y = D.contains y) := ⟨fun y => by rw [hAD]; exact HAC.out y⟩
        obtain ⟨ld, hld⟩ : ∃ ld, ld = AD.length := ⟨_, rfl⟩
        have HLD := Hd.mk hld
        have hld48 : ld ≤ 48 := by have h1 := HEL.out lr (by omega); have h2 := ascA_len D; rw [HEM.out] at h1; rw [hld, hAD]; omega
        rw [HEM.out, ← hAD, ← hld] at HS4
        rw [HEM.out, ← hAD, ← hld]
        clear hAD hld
        go_wp2
        go_loopw [6, 12] (fun v6 v12 wr => ∃ (i : Nat) (vv : Value), i ≤ lr ∧ v12 = .int .i64 i ∧ v6 = vv ∧ ExtI w wr ∧ SepI wr (Row 93 2 vv ((P i).length / 2) (ints (P i)) * (Row 3 1 (.slice (some ⟨G, 0, none⟩) ld C) ld (ints AD) * (Row 3 1 (.slice (some ⟨gr, 0, none⟩) lr cr) lr (ints rs) * (pts be (.cells #[.slice (some ⟨b0, off, none⟩) n c] 54 (0, 0)) * S))))) (fun _ v _ => lr - (intOf v).toNat)
        case atStart => exact ⟨0, .slice (some ⟨g6, 0, none⟩) 0 0, by omega, rfl, rfl, inferInstance, SepI.cast (Ent.sep (S := _) (T := Row 93 2 (.slice (some ⟨g6, 0, none⟩) 0 0) 0 [] * (Row 3 1 (.slice (some ⟨G, 0, none⟩) ld C) ld (ints AD) * (Row 3 1 (.slice (some ⟨gr, 0, none⟩) lr cr) lr (ints rs) * (pts be (.cells #[.slice (some ⟨b0, off, none⟩) n c] 54 (0, 0)) * S)))) inferInstance HS4) (by rw [HPP0.out]; rfl)⟩
        case round =>
          obtain ⟨i, vv, hi, rfl, rfl, HX6, HS6⟩ := hrel
          obtain ⟨A6, c6, rfl, hc6, hc6'⟩ := Row.form HS6
          by_cases hlt2 : i < lr
          · obtain ⟨y, hy⟩ := get_ex (xs := rs) (k := i) (by rw [← HLR.out]; exact hlt2)
            obtain ⟨g, rfl, hg⟩ := HRF.out y (List.mem_of_getElem? hy)
            obtain ⟨x, hx⟩ := get_ex (xs := bs) (k := g) (by rw [← HN.out]; exact hg)
            obtain ⟨hbx, hx8⟩ := HBD.out g x hx
            have d1 : CellAt _ gr i _ := Row.cellAt (e := 3) (size := 1) (g := gr) (n := lr) (c := cr) (F := (pts be (.cells #[.slice (some ⟨b0, off, none⟩) n c] 54 (0, 0)) * S)) (ints_get hy)
            obtain ⟨q, hq⟩ : ∃ q, D.contains (g : Int) = q := ⟨_, rfl⟩
            have HQ : Hd (AD.contains (g : Int) = q) := ⟨by rw [HAD.out, hq]⟩
            obtain ⟨ks, hks⟩ : ∃ ks, ks = recN x.l x.l.length := ⟨_, rfl⟩
            have HKS := Hd.mk hks
            obtain ⟨ps, hps0⟩ : ∃ ps, ps = nats ks := ⟨_, rfl⟩
            have HPS0 := Hd.mk hps0
            obtain ⟨lp, hlp⟩ : ∃ lp, lp = ps.length := ⟨_, rfl⟩
            have HLP := Hd.mk hlp
            have hlk : lp = ks.length := by rw [hlp, hps0, nats_len]
            have HLK := Hd.mk hlk
            have hlp8 : lp ≤ 8 := by rw [hlk, hks]; have := recN_len x.l x.l.length; omega
            have hps := HPS.out i _ hy
            obtain ⟨Q, hQ⟩ : ∃ Q : Nat → List Int, Q = fun j => P i ++ (if q then [] else pr g (ks.take j)) := ⟨_, rfl⟩
            have HQ0 : Hd (Q 0 = P i) := ⟨by rw [hQ]; cases q <;> simp [pr]⟩
            have HQM : Hd (Q lp = P (i + 1)) := ⟨by rw [hQ, hps]; unfold idleOne; rw [hq, hbx, hlk]; simp only [List.take_length]; rw [← hks]⟩
            have HQN : Hd (q = true → ∀ j, Q j = P (i + 1)) := ⟨fun h j => by rw [hQ, hps]; unfold idleOne; rw [hq, h]; simp⟩
            have HQS : Hd (q = false → ∀ (j t : Nat), ks[j]? = some t → Q (j + 1) = Q j ++ [(g : Int), (t : Int)]) := ⟨fun h j t ht => by
              rw [hQ, h]
              simp only
              rw [take_succ_eq ht, pr_snoc]
              simp⟩
            have HQV : Hd (∀ j, j ≤ lp → (Q j).length ≤ 200 ∧ ∃ t, (Q j).length = t * 2) := ⟨fun j hj => by
              obtain ⟨h1, t, h2⟩ := HPV.out i (by omega)
              have h4 := pr_len g (ks.take j)
              rw [List.length_take] at h4
              rw [hQ]
              cases q
              · rw [show (P i ++ (if false = true then [] else pr (g : Int) (ks.take j))).length = (P i).length + (pr (g : Int) (ks.take j)).length by simp]
                exact ⟨by omega, ⟨t + min j ks.length, by omega⟩⟩
              · rw [show (P i ++ (if true = true then [] else pr (g : Int) (ks.take j))).length = (P i).length by simp]
                exact ⟨by omega, ⟨t, by omega⟩⟩⟩
            have HX0 := Hd.mk hx
            clear hy hx hbx hq hps hQ hks hps0 hlp hlk
            go_wp2_with fail
            go_still_tail 5, (by kernel_rfl)
            change wpList _ _ _ _ _ wr.drew
            go_wp2_with fail
            have hC := spec_l5Recovers _ wr.drew (some ⟨b0, off, none⟩) c bs g x HX0.out hx8
            unfold FndPost at hC
            rw [← HN.out, ← HKS.out, ← HPS0.out, ← HLP.out] at hC
            refine hC.mono ?_
            rintro e w8 ⟨v8, rfl, HP⟩
            have HS8 := HP.sep
            have HE8 := HP.ext
            clear HP hC
            obtain ⟨AP, cp, rfl, hcp, hcp'⟩ := Row.form HS8
            go_wp2
            go_loopw [6, 14] (fun v6 v14 wx => ∃ (j : Nat) (vv : Value), j ≤ lp ∧ v14 = .int .i64 j ∧ v6 = vv ∧ ExtI w wx ∧ SepI wx (Row 93 2 vv ((Q j).length / 2) (ints (Q j)) * (Row 3 1 (.slice AP lp cp) lp (ints ps) * (Row 3 1 (.slice (some ⟨G, 0, none⟩) ld C) ld (ints AD) * (Row 3 1 (.slice (some ⟨gr, 0, none⟩) lr cr) lr (ints rs) * (pts be (.cells #[.slice (some ⟨b0, off, none⟩) n c] 54 (0, 0)) * S)))))) (fun _ v _ => lp - (intOf v).toNat)
            case atStart => exact ⟨0, .slice A6 ((P i).length / 2) c6, by omega, rfl, rfl, inferInstance, SepI.cast (Ent.sep (S := _) (T := Row 93 2 (.slice A6 ((P i).length / 2) c6) ((P i).length / 2) (ints (P i)) * (Row 3 1 (.slice AP lp cp) lp (ints ps) * (Row 3 1 (.slice (some ⟨G, 0, none⟩) ld C) ld (ints AD) * (Row 3 1 (.slice (some ⟨gr, 0, none⟩) lr cr) lr (ints rs) * (pts be (.cells #[.slice (some ⟨b0, off, none⟩) n c] 54 (0, 0)) * S))))) inferInstance HS8) (by rw [HQ0.out])⟩
            case round =>
              obtain ⟨j, vv, hj, rfl, rfl, HX9, HS9⟩ := hrel
              obtain ⟨A9, c9, rfl, hc9, hc9'⟩ := Row.form HS9
              by_cases hlj : j < lp
              · obtain ⟨y, hy⟩ := get_ex (xs := ps) (k := j) (by rw [← HLP.out]; exact hlj)
                obtain ⟨t, ht⟩ := get_ex (xs := ks) (k := j) (by rw [← HLK.out]; exact hlj)
                have hyt : y = (t : Int) := by rw [HPS0.out] at hy; unfold nats at hy; rw [List.getElem?_map, ht] at hy; exact (Option.some.inj hy).symm
                subst hyt
                obtain ⟨gp, rfl⟩ := Row.addr (A := AP) (e := 3) (size := 1) (n := lp) (c := cp) (cs := ints ps) (F := Row 93 2 (.slice A9 ((Q j).length / 2) c9) ((Q j).length / 2) (ints (Q j)) * (Row 3 1 (.slice (some ⟨G, 0, none⟩) ld C) ld (ints AD) * (Row 3 1 (.slice (some ⟨gr, 0, none⟩) lr cr) lr (ints rs) * (pts be (.cells #[.slice (some ⟨b0, off, none⟩) n c] 54 (0, 0)) * S)))) (SepI.pick HS9 inferInstance) (by omega)
                have e0 : CellAt _ gp j _ := Row.cellAt (e := 3) (size := 1) (g := gp) (n := lp) (c := cp) (F := Row 3 1 (.slice (some ⟨G, 0, none⟩) ld C) ld (ints AD) * (Row 3 1 (.slice (some ⟨gr, 0, none⟩) lr cr) lr (ints rs) * (pts be (.cells #[.slice (some ⟨b0, off, none⟩) n c] 54 (0, 0)) * S))) (ints_get hy)
                have HT := Hd.mk ht
                obtain ⟨hq1, tt, hq2⟩ := HQV.out j (by omega)
                have HQ2 := Hd.mk hq2
                clear hy ht hq2
                go_wp2_with fail
                refine (l1HasL _ _ (some ⟨G, 0, none⟩) C ld AD HLD.out (by omega) (g : Int) _ HQ.out).mono ?_
                rintro e w10 ⟨rfl, rfl⟩
                cases q
                · go_wp2_with fail
                  go_region_held3 (fun w' => w'.cell? ⟨gr, i, none⟩ = some (.int .i64 (g : Int)) ∧ w'.cell? ⟨gp, j, none⟩ = some (.int .i64 (t : Int))) (exact ⟨cell_at _ _ _ _ _, cell_at _ _ _ _ _⟩)
                    (first
                    | (refine st_list rfl (ev_append (v := .slice A9 ((Q j).length / 2) c9) rfl _ _ 59 rfl rfl 16 _ Try.underlying59 info_A2 rfl (by decide) (by decide) w10.heap.size 1 1 rfl rfl (by simp [Value.oneCell']) (by omega) ?_); intro v1 w11 HS11 HE11; refine ⟨rfl, ?_⟩))
                  go_wp2
                  go_roundw
                  case rel => exact ⟨j + 1, v1, by omega, by go_num, rfl, inferInstance, SepI.cast (Ent.sep (S := _) (T := Row 93 2 v1 ((Q j).length / 2 + 1) (ints (Q j) ++ [.int .i64 g, .int .i64 t]) * (Row 3 1 (.slice (some ⟨gp, 0, none⟩) lp cp) lp (ints ps) * (Row 3 1 (.slice (some ⟨G, 0, none⟩) ld C) ld (ints AD) * (Row 3 1 (.slice (some ⟨gr, 0, none⟩) lr cr) lr (ints rs) * (pts be (.cells #[.slice (some ⟨b0, off, none⟩) n c] 54 (0, 0)) * S))))) inferInstance HS11) (by rw [HQS.out (by trivial) j t HT.out, ints_append, List.length_append, show ((Q j).length + [(g : Int), (t : Int)].length) / 2 = (Q j).length / 2 + 1 by simp only [List.length_cons, List.length_nil]; have := HQ2.out; omega]; rfl)⟩
                  case measure => (simp [intOf]; try omega)
                · go_wp2
                  go_roundw
                  case rel => exact ⟨i + 1, .slice A9 ((Q j).length / 2) c9, by omega, by go_num, rfl, inferInstance, SepI.cast (Ent.sep (S := _) (T := Row 93 2 (.slice A9 ((Q j).length / 2) c9) ((Q j).length / 2) (ints (Q j)) * (Row 3 1 (.slice (some ⟨G, 0, none⟩) ld C) ld (ints AD) * (Row 3 1 (.slice (some ⟨gr, 0, none⟩) lr cr) lr (ints rs) * (pts be (.cells #[.slice (some ⟨b0, off, none⟩) n c] 54 (0, 0)) * S)))) inferInstance HS9) (by rw [HQN.out (by trivial)])⟩
                  case measure => (simp [intOf]; try omega)
              · obtain rfl : lp = j := by omega
                go_wp2
                go_roundw
                case rel => exact ⟨i + 1, .slice A9 ((Q lp).length / 2) c9, by omega, by go_num, by rw [HQM.out], inferInstance, SepI.cast (Ent.sep (S := _) (T := Row 93 2 (.slice A9 ((Q lp).length / 2) c9) ((Q lp).length / 2) (ints (Q lp)) * (Row 3 1 (.slice (some ⟨G, 0, none⟩) ld C) ld (ints AD) * (Row 3 1 (.slice (some ⟨gr, 0, none⟩) lr cr) lr (ints rs) * (pts be (.cells #[.slice (some ⟨b0, off, none⟩) n c] 54 (0, 0)) * S)))) inferInstance HS9) (by rw [HQM.out])⟩
                case measure => (simp [intOf]; try omega)
          · obtain rfl : lr = i := by omega
            go_wp2
            go_ret2
            exact A2Ok.of (v := .slice A6 ((P lr).length / 2) c6) (Post.mk' (Ent.sep (S := _) inferInstance inferInstance) inferInstance)
end Go.Proofs.Ytnmbmdigiaokjaa
