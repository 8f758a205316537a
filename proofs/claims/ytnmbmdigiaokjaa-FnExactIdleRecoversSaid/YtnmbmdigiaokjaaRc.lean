/- Programs: the functions to which one comes from a function, by the reference. Conditions: lengths within bounds. -/
import Derived.Test.YtnmbmdigiaokjaaRb
namespace Go.Proofs.Ytnmbmdigiaokjaa
open Go.RowKit SL
attribute [local go_sem] cell_blk frozen_blk lt_blk cell_at frozen_row lt_row
set_option linter.unusedVariables false
set_option linter.unusedSimpArgs false

set_option maxRecDepth 100000 in
set_option maxHeartbeats 3000000 in
theorem spec_l2Reach (S : HP) (w : World) [H : SepI w S] (A : Option Addr) (c : Nat) (bs : List Bd) [r : Rd S A (cBds bs)] [B : Bodies S bs] (hv : progB (bs.map (·.l)) = true) (f : Nat) (hf : f < bs.length) :
    Calls Try.prog 79 #[.agg #[.slice A bs.length c], .int .i64 f] w fun e w' => ∃ g cc, e = .returned (.slice (some ⟨g, 0, none⟩) (ascA (reachN (bs.map (·.l)) f 6)).length cc) ∧ Post w (Row 3 1 (.slice (some ⟨g, 0, none⟩) (ascA (reachN (bs.map (·.l)) f 6)).length cc) (ascA (reachN (bs.map (·.l)) f 6)).length (ints (ascA (reachN (bs.map (·.l)) f 6))) * S) w' := by
  have hn := B.n
  obtain ⟨n, hnn⟩ : ∃ n, n = bs.length := ⟨_, rfl⟩
  have HN := Hd.mk hnn
  have hn6 : n ≤ 6 := by have := (prog_small hv).2.1; rw [List.length_map] at this; omega
  have hf' : f < (bs.map (·.l)).length := by rw [List.length_map]; exact hf
  obtain ⟨O, hO⟩ : ∃ O : Nat → List Int, O = reachN (bs.map (·.l)) f := ⟨_, rfl⟩
  have HO0 : Hd (O 0 = [(f : Int)]) := ⟨by rw [hO]; rfl⟩
  have HFN : Hd (∀ i, Fns n (O i)) := ⟨fun i => by have := (reachN_fns hv hf' i).1; rw [List.length_map] at this; rw [hO, hnn]; exact this⟩
  have HLE : Hd (∀ i, (O i).length ≤ (O (i + 1)).length) := ⟨fun i => by rw [hO]; exact (reachN_fns hv hf' i).2⟩
  have HST : Hd (∀ i, (O i).length ≤ i → i ≤ 6 → O 6 = O i) := ⟨fun i h h6 => by
    rw [hO] at h ⊢
    have := reachN_stop h (6 - i)
    rwa [show i + (6 - i) = 6 by omega] at this⟩
  have HAT : Hd (∀ i g x, (O i)[i]? = some ((g : Nat) : Int) → bs[g]? = some x → O (i + 1) = (ascA (callN kCD x.l)).foldl addNew (O i) ∧ x.l.length ≤ 8 ∧ (ascA (callN kCD x.l)).length ≤ 8 ∧ ∀ y ∈ ascA (callN kCD x.l), ∃ j : Nat, y = j ∧ j < n) := ⟨fun i g x h hx => by
    have h8 : x.l.length ≤ 8 := (prog_small hv).2.2 x.l (List.mem_map.2 ⟨x, List.mem_of_getElem? hx, rfl⟩)
    obtain ⟨e1, e2⟩ := calledOf_len (L := bs.map (·.l)) (g := g) (x := x.l) (by rw [List.getElem?_map, hx]; rfl) h8
    rw [hO] at h ⊢
    rw [reachN_at h, e1]
    refine ⟨rfl, h8, e2, fun y hy => ?_⟩
    have hg : g < (bs.map (·.l)).length := by rw [List.length_map]; exact (List.getElem?_eq_some_iff.1 hx).1
    have := calledOf_fns hv hg y (by rw [e1]; exact hy)
    rwa [List.length_map, ← hnn] at this⟩
  rw [← hO]
  have HB := Hd.mk B
  have HR := Hd.mk r
  obtain ⟨b0, off, rfl⟩ := r.addr H (j := f) (by rw [cBds_len]; exact hf)
  rw [← hnn]
  clear hO hv hf hf' hnn
  obtain ⟨be, hbe⟩ : ∃ be, be = w.heap.size := ⟨_, rfl⟩
  have hlit : SepI (((w.alloc (.cells #[.slice (some ⟨b0, off, none⟩) n c] 54 (0, 0))).alloc (.cells #[.int .i64 f] 3 (0, 0))).alloc (.cells #[.int .i64 f] 3 (0, 0))) (Row 3 1 (.slice (some ⟨be + 1, 0, none⟩) 1 1) 1 [.int .i64 f] * (Row 3 1 (.slice (some ⟨be + 1 + 1, 0, none⟩) 1 1) 1 [.int .i64 f] * (pts be (.cells #[.slice (some ⟨b0, off, none⟩) n c] 54 (0, 0)) * S))) := by
    rw [hbe]
    have h1 := Row.lit1 (SepI.i_alloc (w.alloc (.cells #[.slice (some ⟨b0, off, none⟩) n c] 54 (0, 0))) (.cells #[.int .i64 f] 3 (0, 0)) _ _)
    have h2 := Row.lit1 (@SepI.i_alloc _ (.cells #[.int .i64 f] 3 (0, 0)) _ _ h1 _)
    exact SepI.cast h2 (star_left _ _ _)
  go_enter Try.func79, Try.ntmps79
  go_wp2
  rw [← hbe]
  clear hbe
  go_loopw [5, 6, 7] (fun v5 v6 v7 wr => ∃ (i g5 c5 : Nat) (vv : Value), i ≤ 6 ∧ v7 = .int .i64 i ∧ v6 = vv ∧ v5 = .slice (some ⟨g5, 0, none⟩) (ascA (O i)).length c5 ∧ ExtI w wr ∧ Hd (i ≤ (O i).length) ∧ SepI wr (Row 3 1 (.slice (some ⟨g5, 0, none⟩) (ascA (O i)).length c5) (ascA (O i)).length (ints (ascA (O i))) * (Row 3 1 vv (O i).length (ints (O i)) * (pts be (.cells #[.slice (some ⟨b0, off, none⟩) n c] 54 (0, 0)) * S)))) (fun _ _ v _ => 6 - (intOf v).toNat)
  case atStart => exact ⟨0, be + 1, 1, .slice (some ⟨be + 1 + 1, 0, none⟩) 1 1, by omega, rfl, rfl, by rw [HO0.out]; rfl, inferInstance, ⟨Nat.zero_le _⟩, SepI.cast hlit (by rw [HO0.out]; rfl)⟩
  case round =>
    obtain ⟨i, g5, c5, vv, hi, rfl, rfl, rfl, HX, HIL, HS3⟩ := hrel
    obtain ⟨A0, c0, rfl, hc0, hc1⟩ := Row.form (SepI.cast HS3 (star_left _ _ _))
    obtain ⟨m, hm⟩ : ∃ m, m = (O i).length := ⟨_, rfl⟩
    have HM := Hd.mk hm
    have hm6 : m ≤ 6 := by have := (HFN.out i).len; omega
    rw [← hm] at HS3 hc0 ⊢
    clear hm
    by_cases hlt : i < m
    · obtain ⟨y, hy⟩ := get_ex (xs := O i) (k := i) (by rw [← HM.out]; exact hlt)
      obtain ⟨g, rfl, hg⟩ := (HFN.out i).2 y (List.mem_of_getElem? hy)
      obtain ⟨x, hx⟩ := get_ex (xs := bs) (k := g) (by rw [← HN.out]; exact hg)
      obtain ⟨hnext, hx8, hc8, hcf⟩ := HAT.out i g x hy hx
      obtain ⟨g0, rfl⟩ := Row.addr (SepI.cast HS3 (star_left _ _ _)) (by omega)
      have d1 : CellAt _ g0 i _ := Row.cellAt (e := 3) (size := 1) (g := g0) (n := m) (c := c0) (F := (pts be (.cells #[.slice (some ⟨b0, off, none⟩) n c] 54 (0, 0)) * S)) (ints_get hy)
      have HX0 := Hd.mk hx
      obtain ⟨cs, hcs⟩ : ∃ cs, cs = ascA (callN kCD x.l) := ⟨_, rfl⟩
      have HCS := Hd.mk hcs
      rw [← hcs] at hnext hc8 hcf
      have HNX := Hd.mk hnext
      have HCF := Hd.mk hcf
      obtain ⟨lc, hlc⟩ : ∃ lc, lc = cs.length := ⟨_, rfl⟩
      have HLC := Hd.mk hlc
      rw [← hlc] at hc8
      clear hy hx hcs hnext hcf hlc
      go_wp2_with fail
      go_still_tail 5, (by kernel_rfl)
      change wpList _ _ _ _ _ wr.drew
      go_wp2_with fail
      have hC := spec_l2Calls _ wr.drew (some ⟨b0, off, none⟩) c bs g x HX0.out hx8
      rw [← HN.out, ← HCS.out, ← HLC.out] at hC
      refine hC.mono ?_
      rintro e w2 ⟨gc, cc, rfl, HP⟩
      have HS4 := HP.sep
      have HE4 := HP.ext
      clear HP hC
      obtain ⟨I, hI⟩ : ∃ I : Nat → List Int, I = fun k => (cs.take k).foldl addNew (O i) := ⟨_, rfl⟩
      have HI0 : Hd (I 0 = O i) := ⟨by rw [hI]; rfl⟩
      have HIM : Hd (I lc = O (i + 1)) := ⟨by rw [hI, HNX.out, HLC.out]; simp only [List.take_length]⟩
      have HIF : Hd (∀ k, Fns n (I k) ∧ (O i).length ≤ (I k).length) := ⟨fun k => by rw [hI]; exact fold_fns _ _ (HFN.out i) (fun y hy => HCF.out y (List.mem_of_mem_take hy))⟩
      have HIS : Hd (∀ k y, cs[k]? = some y → I (k + 1) = addNew (I k) y) := ⟨fun k y h => by rw [hI]; exact fold_take h _⟩
      clear hI
      go_wp2
      go_loopw [5, 6, 9] (fun v5 v6 v9 wx => ∃ (k g7 c7 : Nat) (vv : Value), k ≤ lc ∧ v9 = .int .i64 k ∧ v6 = vv ∧ v5 = .slice (some ⟨g7, 0, none⟩) (ascA (I k)).length c7 ∧ ExtI w wx ∧ SepI wx (Row 3 1 (.slice (some ⟨g7, 0, none⟩) (ascA (I k)).length c7) (ascA (I k)).length (ints (ascA (I k))) * (Row 3 1 vv (I k).length (ints (I k)) * (Row 3 1 (.slice (some ⟨gc, 0, none⟩) lc cc) lc (ints cs) * (pts be (.cells #[.slice (some ⟨b0, off, none⟩) n c] 54 (0, 0)) * S))))) (fun _ _ v _ => lc - (intOf v).toNat)
      case atStart => exact ⟨0, g5, c5, .slice (some ⟨g0, 0, none⟩) m c0, by omega, rfl, rfl, by rw [HI0.out], inferInstance, SepI.cast (Ent.sep (S := _) (T := Row 3 1 (.slice (some ⟨g5, 0, none⟩) (ascA (O i)).length c5) (ascA (O i)).length (ints (ascA (O i))) * (Row 3 1 (.slice (some ⟨g0, 0, none⟩) m c0) m (ints (O i)) * (Row 3 1 (.slice (some ⟨gc, 0, none⟩) lc cc) lc (ints cs) * (pts be (.cells #[.slice (some ⟨b0, off, none⟩) n c] 54 (0, 0)) * S)))) inferInstance HS4) (by rw [HI0.out, ← HM.out])⟩
      case round =>
        obtain ⟨k, G5, C5, vv, hk, rfl, rfl, rfl, HX5, HS5⟩ := hrel
        obtain ⟨A6, C6, rfl, hc5, hc6⟩ := Row.form (SepI.cast HS5 (star_left _ _ _))
        by_cases hlk : k < lc
        · obtain ⟨y, hy⟩ := get_ex (xs := cs) (k := k) (by rw [← HLC.out]; exact hlk)
          have e0 : CellAt _ gc k _ := Row.cellAt (e := 3) (size := 1) (g := gc) (n := lc) (c := cc) (F := (pts be (.cells #[.slice (some ⟨b0, off, none⟩) n c] 54 (0, 0)) * S)) (ints_get hy)
          have hik := (HIF.out k).1.len
          have hak := ascA_len (I k)
          obtain ⟨q, hq⟩ : ∃ q, (ascA (I k)).contains y = q := ⟨_, rfl⟩
          have HQ := Hd.mk hq
          have HSN := Hd.mk (HIS.out k y hy)
          have HQ2 : Hd ((I k).contains y = q) := ⟨by rw [← ascA_contains]; exact hq⟩
          clear hq hy
          go_wp2_with fail
          refine (spec_l1Has _ _ (some ⟨G5, 0, none⟩) C5 (ascA (I k)) (by omega) y _ HQ.out).mono ?_
          rintro e w6 ⟨rfl, rfl⟩
          cases q
          · go_wp2_with fail
            refine (l1Put_some (Row 3 1 (.slice A6 (I k).length C6) (I k).length (ints (I k)) * (Row 3 1 (.slice (some ⟨gc, 0, none⟩) lc cc) lc (ints cs) * (pts be (.cells #[.slice (some ⟨b0, off, none⟩) n c] 54 (0, 0)) * S))) _ G5 C5 (ascA (I k)) HS5 (by omega) y).mono ?_
            rintro e w4 ⟨v4, rfl, HP4⟩
            have HS7 := HP4.sep
            have HE7 := HP4.ext
            have hpos : 0 < (putA (ascA (I k)) y).length := (putA_len _ _).2
            clear HP4
            obtain ⟨A4, c4, rfl, _, _⟩ := Row.form HS7
            obtain ⟨g4, rfl⟩ := Row.addr HS7 hpos
            clear hpos
            go_wp2_with (at_builtin; go_must (refine ev_append (v := .slice A6 (I k).length C6) rfl _ _ 34 rfl rfl 8 _ Try.underlying34 info_int rfl (by decide) (by decide) w4.heap.size 1 1 rfl rfl (by simp [Value.oneCell']) (by omega) ?_); intro v1 w7 HS8 HE8)
            have ea : ascA (I (k + 1)) = putA (ascA (I k)) y := by rw [HSN.out, ascA_addNew, HQ2.out]; rfl
            have ei : I (k + 1) = I k ++ [y] := by rw [HSN.out]; unfold addNew; rw [HQ2.out]; rfl
            have HEA := Hd.mk ea
            have HEI := Hd.mk ei
            clear ea ei
            go_roundw
            case rel => exact ⟨k + 1, g4, c4, v1, by omega, by go_num, rfl, by rw [HEA.out], inferInstance, SepI.cast (Ent.sep (S := _) (T := Row 3 1 (.slice (some ⟨g4, 0, none⟩) (putA (ascA (I k)) y).length c4) (putA (ascA (I k)) y).length (ints (putA (ascA (I k)) y)) * (Row 3 1 v1 ((I k).length + 1) (ints (I k) ++ [.int .i64 y]) * (Row 3 1 (.slice (some ⟨gc, 0, none⟩) lc cc) lc (ints cs) * (pts be (.cells #[.slice (some ⟨b0, off, none⟩) n c] 54 (0, 0)) * S)))) inferInstance HS8) (by rw [HEA.out, HEI.out, ints_append, List.length_append]; rfl)⟩
            case measure => (simp [intOf]; try omega)
          · go_wp2
            have ei : I (k + 1) = I k := by rw [HSN.out]; unfold addNew; rw [HQ2.out]; rfl
            have HEI := Hd.mk ei
            clear ei
            go_roundw
            case rel => exact ⟨k + 1, G5, C5, .slice A6 (I k).length C6, by omega, by go_num, rfl, by rw [HEI.out], inferInstance, SepI.cast HS5 (by rw [HEI.out])⟩
            case measure => (simp [intOf]; try omega)
        · have : k = lc := by omega
          subst this
          have hle := (HIF.out k).2
          go_wp2
          go_roundw
          case rel => exact ⟨i + 1, G5, C5, .slice A6 (I k).length C6, by omega, by go_num, by rw [HIM.out], by rw [HIM.out], inferInstance, ⟨by have := HM.out; rw [← HIM.out]; omega⟩, SepI.cast (Ent.sep (S := _) (T := Row 3 1 (.slice (some ⟨G5, 0, none⟩) (ascA (I k)).length C5) (ascA (I k)).length (ints (ascA (I k))) * (Row 3 1 (.slice A6 (I k).length C6) (I k).length (ints (I k)) * (pts be (.cells #[.slice (some ⟨b0, off, none⟩) n c] 54 (0, 0)) * S))) inferInstance HS5) (by rw [HIM.out])⟩
          case measure => (simp [intOf]; try omega)
    · have him : i = m := by have := HIL.out; have := HM.out; omega
      have hfin := HST.out i (by have := HM.out; omega) hi
      have HFI := Hd.mk hfin
      clear hfin
      go_wp2
      go_ret
      rw [HFI.out]
      exact ⟨g5, c5, rfl, Post.mk' (Ent.sep (S := _) inferInstance inferInstance) inferInstance⟩
end Go.Proofs.Ytnmbmdigiaokjaa
