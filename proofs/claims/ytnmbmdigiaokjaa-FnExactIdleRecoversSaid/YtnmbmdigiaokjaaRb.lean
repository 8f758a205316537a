/- Programs: the functions to which one comes from a function, by the program. Conditions: lengths within bounds. -/
import Derived.Test.YtnmbmdigiaokjaaRa
namespace Go.Proofs.Ytnmbmdigiaokjaa
open Go.RowKit SL
attribute [local go_sem] cell_blk frozen_blk lt_blk cell_at frozen_row lt_row
set_option linter.unusedVariables false
set_option linter.unusedSimpArgs false

theorem Row.lit1 {w : World} {g : Nat} {e : TypeId} {x : Value} {F : HP} (H : SepI w (pts g (.cells #[x] e (0, 0)) * F)) : SepI w (Row e 1 (.slice (some ⟨g, 0, none⟩) 1 1) 1 [x] * F) :=
  Row.close (size := 1) H (Nat.le_refl _) (by unfold maxLen; omega) rfl
theorem calledOf_len {L : List (List St)} {g : Nat} {x : List St} (h : L[g]? = some x) (hx : x.length ≤ 8) : calledOf L g = ascA (callN kCD x) ∧ (ascA (callN kCD x)).length ≤ 8 := by
  constructor
  · unfold calledOf; rw [Int.toNat_natCast, List.getD_eq_getElem?_getD, h]; rfl
  · have h1 := ascA_len (callN kCD x)
    have h2 := callN_len kCD x
    omega
theorem fold_take {l : List Int} {k : Nat} {y : Int} (h : l[k]? = some y) (o : List Int) : (l.take (k + 1)).foldl addNew o = addNew ((l.take k).foldl addNew o) y := by
  rw [take_succ_eq h, List.foldl_append]; rfl
set_option maxRecDepth 100000 in
set_option maxHeartbeats 3000000 in
theorem impl_reached (S : HP) (w : World) [H : SepI w S] (A : Option Addr) (c : Nat) (bs : List Bd) [r : Rd S A (cBds bs)] [B : Bodies S bs] (hv : progB (bs.map (·.l)) = true) (f : Nat) (hf : f < bs.length) :
    Calls Try.prog 80 #[.agg #[.slice A bs.length c], .int .i64 f] w fun e w' => ∃ v, e = .returned v ∧ Post w (Row 3 1 v (ascA (reachN (bs.map (·.l)) f 6)).length (ints (ascA (reachN (bs.map (·.l)) f 6))) * S) w' := by
  have hn := B.n
  obtain ⟨n, hnn⟩ : ∃ n, n = bs.length := ⟨_, rfl⟩
  have HN := Hd.mk hnn
  have hn6 : n ≤ 6 := by have := (prog_small hv).2.1; rw [List.length_map] at this; omega
  have hf' : f < (bs.map (·.l)).length := by rw [List.length_map]; exact hf
  obtain ⟨O, hO⟩ : ∃ O : Nat → List Int, O = reachN (bs.map (·.l)) f := ⟨_, rfl⟩
  have HO0 : Hd (O 0 = [(f : Int)]) := ⟨by rw [hO]; rfl⟩
  have HFN : Hd (∀ i, Fns n (O i)) := ⟨fun i => by have := (reachN_fns hv hf' i).1; rw [List.length_map] at this; rw [hO, hnn]; exact this⟩
  have HLE : Hd (∀ i, (O i).length ≤ (O (i + 1)).length) := ⟨fun i => by rw [hO]; exact (reachN_fns hv hf' i).2⟩
  have HST : Hd (∀ i, (O i).length ≤ i → i ≤ 6 → O 6 = O i) := ⟨fun i h h6 => by
    rw [hO] at h ⊢
    have := reachN_stop h (6 - i)
    rwa [show i + (6 - i) = 6 by omega] at this⟩
  have HAT : Hd (∀ i g x, (O i)[i]? = some ((g : Nat) : Int) → bs[g]? = some x → O (i + 1) = (ascA (callN kCD x.l)).foldl addNew (O i) ∧ x.l.length ≤ 8 ∧ (ascA (callN kCD x.l)).length ≤ 8 ∧ ∀ y ∈ ascA (callN kCD x.l), ∃ j : Nat, y = j ∧ j < n) := ⟨fun i g x h hx => by
    have h8 : x.l.length ≤ 8 := (prog_small hv).2.2 x.l (List.mem_map.2 ⟨x, List.mem_of_getElem? hx, rfl⟩)
    obtain ⟨e1, e2⟩ := calledOf_len (L := bs.map (·.l)) (g := g) (x := x.l) (by rw [List.getElem?_map, hx]; rfl) h8
    rw [hO] at h ⊢
    rw [reachN_at h, e1]
    refine ⟨rfl, h8, e2, fun y hy => ?_⟩
    have hg : g < (bs.map (·.l)).length := by rw [List.length_map]; exact (List.getElem?_eq_some_iff.1 hx).1
    have := calledOf_fns hv hg y (by rw [e1]; exact hy)
    rwa [List.length_map, ← hnn] at this⟩
  rw [← hO]
  have HB := Hd.mk B
  have HR := Hd.mk r
  obtain ⟨b0, off, rfl⟩ := r.addr H (j := f) (by rw [cBds_len]; exact hf)
  rw [← hnn]
  clear hO hv hf hf' hnn
  obtain ⟨be, hbe⟩ : ∃ be, be = w.heap.size := ⟨_, rfl⟩
  have hlit : SepI ((w.alloc (.cells #[.slice (some ⟨b0, off, none⟩) n c] 54 (0, 0))).alloc (.cells #[.int .i64 f] 3 (0, 0))) (Row 3 1 (.slice (some ⟨be + 1, 0, none⟩) 1 1) 1 [.int .i64 f] * (pts be (.cells #[.slice (some ⟨b0, off, none⟩) n c] 54 (0, 0)) * S)) := by
    rw [hbe]
    exact Row.lit1 (SepI.i_alloc _ (.cells #[.int .i64 f] 3 (0, 0)) _ _)
  go_enter Try.func80, Try.ntmps80
  go_wp2
  rw [← hbe]
  clear hbe
  go_loopw [5, 6] (fun v5 v6 wr => ∃ (i : Nat) (vv : Value), i ≤ 6 ∧ v6 = .int .i64 i ∧ v5 = vv ∧ ExtI w wr ∧ Hd (i ≤ (O i).length) ∧ SepI wr (Row 3 1 vv (O i).length (ints (O i)) * (pts be (.cells #[.slice (some ⟨b0, off, none⟩) n c] 54 (0, 0)) * S))) (fun _ v _ => 6 - (intOf v).toNat)
  case atStart => exact ⟨0, .slice (some ⟨be + 1, 0, none⟩) 1 1, by omega, rfl, rfl, inferInstance, ⟨Nat.zero_le _⟩, SepI.cast hlit (by rw [HO0.out]; rfl)⟩
  case round =>
    obtain ⟨i, vv, hi, rfl, rfl, HX, HIL, HS3⟩ := hrel
    obtain ⟨A0, c0, rfl, hc0, hc1⟩ := Row.form HS3
    obtain ⟨m, hm⟩ : ∃ m, m = (O i).length := ⟨_, rfl⟩
    have HM := Hd.mk hm
    have hm6 : m ≤ 6 := by have := (HFN.out i).len; omega
    rw [← hm] at HS3 hc0 ⊢
    clear hm
    by_cases hlt : i < m
    · obtain ⟨y, hy⟩ := get_ex (xs := O i) (k := i) (by rw [← HM.out]; exact hlt)
      obtain ⟨g, rfl, hg⟩ := (HFN.out i).2 y (List.mem_of_getElem? hy)
      obtain ⟨x, hx⟩ := get_ex (xs := bs) (k := g) (by rw [← HN.out]; exact hg)
      obtain ⟨hnext, hx8, hc8, hcf⟩ := HAT.out i g x hy hx
      obtain ⟨g0, rfl⟩ := Row.addr HS3 (by omega)
      have d1 : CellAt _ g0 i _ := Row.cellAt (e := 3) (size := 1) (g := g0) (n := m) (c := c0) (F := (pts be (.cells #[.slice (some ⟨b0, off, none⟩) n c] 54 (0, 0)) * S)) (ints_get hy)
      have d2 := HR.out.cell (cBds_get hx)
      have rx := HB.out.rd x (List.mem_of_getElem? hx)
      obtain ⟨cs, hcs⟩ : ∃ cs, cs = ascA (callN kCD x.l) := ⟨_, rfl⟩
      have HCS := Hd.mk hcs
      rw [← hcs] at hnext hc8 hcf
      have HNX := Hd.mk hnext
      have HCF := Hd.mk hcf
      obtain ⟨lc, hlc⟩ : ∃ lc, lc = cs.length := ⟨_, rfl⟩
      have HLC := Hd.mk hlc
      rw [← hlc] at hc8
      clear hy hx hcs hnext hcf hlc
      go_wp2_with fail
      go_region_held3 (fun w' => w'.cell? ⟨be, 0, none⟩ = some (.slice (some ⟨b0, off, none⟩) n c) ∧ w'.cell? ⟨g0, i, none⟩ = some (.int .i64 (g : Int)) ∧ w'.cell? ⟨b0, off + g, none⟩ = some (.slice x.p x.l.length x.c)) (exact ⟨(cell_blk _ _ _ _ _ _ _).trans rfl, cell_at _ _ _ _ _, cell_at _ _ _ _ _⟩)
        (first
        | (go_at_call 76; refine (impl_called _ _ x.p x.c x.l hx8 _ 2 [4, 5] (rk := rd_two 4 5) (by simp)).mono ?_; rintro e w2 ⟨v2, rfl, HP⟩; rw [kCD_eq, ← HCS.out, ← HLC.out] at HP; have HS4 := HP.sep; have HE4 := HP.ext; clear HP; obtain ⟨A2, c2, rfl, hc2, hc3⟩ := Row.form HS4))
      go_wp2
      obtain ⟨I, hI⟩ : ∃ I : Nat → List Int, I = fun k => (cs.take k).foldl addNew (O i) := ⟨_, rfl⟩
      have HI0 : Hd (I 0 = O i) := ⟨by rw [hI]; rfl⟩
      have HIM : Hd (I lc = O (i + 1)) := ⟨by rw [hI, HNX.out, HLC.out]; simp only [List.take_length]⟩
      have HIF : Hd (∀ k, Fns n (I k) ∧ (O i).length ≤ (I k).length) := ⟨fun k => by rw [hI]; exact fold_fns _ _ (HFN.out i) (fun y hy => HCF.out y (List.mem_of_mem_take hy))⟩
      have HIS : Hd (∀ k y, cs[k]? = some y → I (k + 1) = addNew (I k) y) := ⟨fun k y h => by rw [hI]; exact fold_take h _⟩
      clear hI
      go_loopw [5, 28] (fun v5 v28 wx => ∃ (k : Nat) (vv : Value), k ≤ lc ∧ v28 = .int .i64 k ∧ v5 = vv ∧ ExtI w wx ∧ SepI wx (Row 3 1 vv (I k).length (ints (I k)) * (Row 3 1 (.slice A2 lc c2) lc (ints cs) * (pts be (.cells #[.slice (some ⟨b0, off, none⟩) n c] 54 (0, 0)) * S)))) (fun _ v _ => lc - (intOf v).toNat)
      case atStart => exact ⟨0, .slice (some ⟨g0, 0, none⟩) m c0, by omega, rfl, rfl, inferInstance, SepI.cast (Ent.sep (S := _) (T := Row 3 1 (.slice (some ⟨g0, 0, none⟩) m c0) m (ints (O i)) * (Row 3 1 (.slice A2 lc c2) lc (ints cs) * (pts be (.cells #[.slice (some ⟨b0, off, none⟩) n c] 54 (0, 0)) * S))) inferInstance HS4) (by rw [HI0.out, ← HM.out])⟩
      case round =>
        obtain ⟨k, vv, hk, rfl, rfl, HX5, HS5⟩ := hrel
        obtain ⟨A5, c5, rfl, hc5, hc6⟩ := Row.form HS5
        by_cases hlk : k < lc
        · obtain ⟨y, hy⟩ := get_ex (xs := cs) (k := k) (by rw [← HLC.out]; exact hlk)
          obtain ⟨bp, op, rfl⟩ := Rd.addr (S := Row 3 1 (.slice A5 (I k).length c5) (I k).length (ints (I k)) * (Row 3 1 (.slice A2 lc c2) lc (ints cs) * (pts be (.cells #[.slice (some ⟨b0, off, none⟩) n c] 54 (0, 0)) * S))) (A := A2) (cs := ints cs) inferInstance HS5 (j := k) (by rw [ints_len, ← HLC.out]; omega)
          have e1 := Rd.cell (S := Row 3 1 (.slice A5 (I k).length c5) (I k).length (ints (I k)) * (Row 3 1 (.slice (some ⟨bp, op, none⟩) lc c2) lc (ints cs) * (pts be (.cells #[.slice (some ⟨b0, off, none⟩) n c] 54 (0, 0)) * S))) (b := bp) (off := op) (cs := ints cs) inferInstance (ints_get hy)
          have hik := (HIF.out k).1.len
          obtain ⟨q, hq⟩ : ∃ q, (I k).contains y = q := ⟨_, rfl⟩
          have HQ := Hd.mk hq
          have HSN := Hd.mk (HIS.out k y hy)
          clear hq hy
          go_wp2_with fail
          refine (containsI _ _ A5 c5 (I k) (by omega) y _ HQ.out).mono ?_
          rintro e w6 ⟨rfl, HP⟩
          have HS6 := HP.sep
          have HE6 := HP.ext
          clear HP
          cases q
          · go_wp2_with (at_builtin; go_must (refine ev_append (v := .slice A5 (I k).length c5) rfl _ _ 34 rfl rfl 8 _ Try.underlying34 info_int rfl (by decide) (by decide) w6.heap.size 1 1 rfl rfl (by simp [Value.oneCell']) (by omega) ?_); intro v1 w7 HS7 HE7)
            go_roundw
            case rel => exact ⟨k + 1, v1, by omega, by go_num, rfl, inferInstance, SepI.cast (Ent.sep (S := _) (T := Row 3 1 v1 ((I k).length + 1) (ints (I k) ++ [.int .i64 y]) * (Row 3 1 (.slice (some ⟨bp, op, none⟩) lc c2) lc (ints cs) * (pts be (.cells #[.slice (some ⟨b0, off, none⟩) n c] 54 (0, 0)) * S))) inferInstance HS7) (by rw [HSN.out]; unfold addNew; rw [HQ.out]; simp [ints])⟩
            case measure => (simp [intOf]; try omega)
          · go_wp2
            go_roundw
            case rel => exact ⟨k + 1, .slice A5 (I k).length c5, by omega, by go_num, rfl, inferInstance, SepI.cast (Ent.sep (S := _) (T := Row 3 1 (.slice A5 (I k).length c5) (I k).length (ints (I k)) * (Row 3 1 (.slice (some ⟨bp, op, none⟩) lc c2) lc (ints cs) * (pts be (.cells #[.slice (some ⟨b0, off, none⟩) n c] 54 (0, 0)) * S))) inferInstance HS6) (by rw [HSN.out]; unfold addNew; rw [HQ.out]; simp)⟩
            case measure => (simp [intOf]; try omega)
        · have : k = lc := by omega
          subst this
          have hle := (HIF.out k).2
          go_wp2
          go_roundw
          case rel => exact ⟨i + 1, .slice A5 (I k).length c5, by omega, by go_num, by rw [HIM.out], inferInstance, ⟨by have := HM.out; rw [← HIM.out]; omega⟩, SepI.cast (Ent.sep (S := _) (T := Row 3 1 (.slice A5 (I k).length c5) (I k).length (ints (I k)) * (pts be (.cells #[.slice (some ⟨b0, off, none⟩) n c] 54 (0, 0)) * S)) inferInstance HS5) (by rw [HIM.out])⟩
          case measure => (simp [intOf]; try omega)
    · have him : i = m := by have := HIL.out; have := HM.out; omega
      have hfin := HST.out i (by have := HM.out; omega) hi
      have HFI := Hd.mk hfin
      clear hfin
      go_wp2_with fail
      have hA := ascendingI _ _ A0 c0 (O i) (by rw [← HM.out]; exact HS3) (by have := HM.out; omega)
      rw [← HM.out] at hA
      refine hA.mono ?_
      rintro e w5 ⟨v5, rfl, HP⟩
      rw [← HFI.out] at HP
      have HS5 := HP.sep
      have HE5 := HP.ext
      clear HP
      go_wp2
      go_ret
      exact ⟨v5, rfl, Post.mk' (Ent.sep (S := _) inferInstance inferInstance) inferInstance⟩
end Go.Proofs.Ytnmbmdigiaokjaa
