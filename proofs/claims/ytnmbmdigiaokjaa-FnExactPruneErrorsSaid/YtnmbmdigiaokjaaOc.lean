/- New errors: a new error ahead, by the reference. Conditions: lengths within bounds. -/
import Derived.Test.YtnmbmdigiaokjaaOb
namespace Go.Proofs.Ytnmbmdigiaokjaa
open Go.RowKit SL
attribute [local go_sem] cell_blk frozen_blk lt_blk cell_at frozen_row lt_row
set_option linter.unusedVariables false
set_option linter.unusedSimpArgs false

/-- A call that hands back errors of its own. -/
def ErrPost (S : HP) (l : List EC) (w : World) (e : Ending) (w' : World) : Prop := ∃ A c es, e = .returned (.agg #[.slice A es.length c]) ∧ es.map ecOf = l ∧ Post w (OwnE (.slice A es.length c) es * S) w'
set_option maxRecDepth 100000 in
set_option maxHeartbeats 4000000 in
theorem spec_l6Ahead (S : HP) (w : World) [H : SepI w S] (A : Option Addr) (c : Nat) (es : List EN) [r : Rd S A (cENs es)] [B : Nodes S es] (h12 : es.length < 12) (hsm : ∀ x ∈ es, x.l.length ≤ 12 ∧ ∀ y ∈ x.l, 0 ≤ y ∧ y ≤ 12)
    (K C : Int) (PA : Option Addr) (pc : Nat) (l : List Int) [rl : Rd S PA (ints l)] (hl : l.length ≤ 12) (hb : ∀ y ∈ l, 0 ≤ y ∧ y ≤ 12) :
    Calls Try.prog 60 #[.agg #[.slice A es.length c], .agg #[.int .i64 K, .int .i64 C, .slice PA l.length pc]] w (ErrPost S (aheadF K C l (es.map ecOf)) w) := by
  obtain ⟨n, hn⟩ : ∃ n, n = es.length := ⟨_, rfl⟩
  have HN := Hd.mk hn
  have hn12 : n < 12 := by omega
  obtain ⟨ll, hll⟩ : ∃ ll, ll = l.length := ⟨_, rfl⟩
  have HLL := Hd.mk hll
  have HB := Hd.mk B
  have HR := Hd.mk r
  have HRL := Hd.mk rl
  have HSM := Hd.mk hsm
  have HBD := Hd.mk hb
  obtain ⟨NE, hNE⟩ : ∃ NE : List EC, NE = (K, C, l) :: es.map ecOf := ⟨_, rfl⟩
  have HNE := Hd.mk hNE
  have HNF : Hd ((NE.take (n + 1)).map upEC = aheadF K C l (es.map ecOf)) := ⟨by unfold aheadF; rw [hNE, List.take_of_length_le (by rw [List.length_cons, List.length_map]; omega)]⟩
  rw [← hn, ← hll]
  rw [← hll] at hl
  clear hn hsm hb h12 hll hNE
  obtain ⟨g2, hg2⟩ : ∃ g2, g2 = w.heap.size := ⟨_, rfl⟩
  obtain ⟨g3, hg3⟩ : ∃ g3, g3 = g2 + 1 := ⟨_, rfl⟩
  obtain ⟨g4, hg4⟩ : ∃ g4, g4 = g3 + 1 := ⟨_, rfl⟩
  obtain ⟨gl, hgl⟩ : ∃ gl, gl = g4 + 1 := ⟨_, rfl⟩
  obtain ⟨g5, hg5⟩ : ∃ g5, g5 = gl + 1 := ⟨_, rfl⟩
  have H0 : SepI (((w.alloc (.cells #[.slice A n c] 30 (0, 0))).alloc (.cells #[.int .i64 K, .int .i64 C, .slice PA ll pc] 70 (0, 0))).alloc (.cells #[.slice none 0 0] 30 (0, 0))) (pts g4 (.cells #[.slice none 0 0] 30 (0, 0)) * (pts g3 (.cells #[.int .i64 K, .int .i64 C, .slice PA ll pc] 70 (0, 0)) * (pts g2 (.cells #[.slice A n c] 30 (0, 0)) * S))) := by rw [hg4, hg3, hg2]; exact SepI.i_alloc _ _ _ _
  have H1 : SepI ((((w.alloc (.cells #[.slice A n c] 30 (0, 0))).alloc (.cells #[.int .i64 K, .int .i64 C, .slice PA ll pc] 70 (0, 0))).alloc (.cells #[.slice none 0 0] 30 (0, 0))).alloc (.cells #[] 70 (0, 0))) (pts gl (.cells #[] 70 (0, 0)) * (pts g4 (.cells #[.slice none 0 0] 30 (0, 0)) * (pts g3 (.cells #[.int .i64 K, .int .i64 C, .slice PA ll pc] 70 (0, 0)) * (pts g2 (.cells #[.slice A n c] 30 (0, 0)) * S)))) := @SepI.i_alloc _ _ _ _ H0 ⟨by simp only [World.size_alloc]; omega⟩
  have H2 : SepI (((((w.alloc (.cells #[.slice A n c] 30 (0, 0))).alloc (.cells #[.int .i64 K, .int .i64 C, .slice PA ll pc] 70 (0, 0))).alloc (.cells #[.slice none 0 0] 30 (0, 0))).alloc (.cells #[] 70 (0, 0))).alloc (.cells #[.slice (some ⟨gl, 0, none⟩) 0 0] 30 (0, 0))) (pts g5 (.cells #[(.slice (some ⟨gl, 0, none⟩) 0 0)] 30 (0, 0)) * (Row 70 3 (.slice (some ⟨gl, 0, none⟩) 0 0) 0 (cENs ([] : List EN)) * (stars (([] : List EN).map OwnI) * (pts g4 (.cells #[.slice none 0 0] 30 (0, 0)) * (pts g3 (.cells #[.int .i64 K, .int .i64 C, .slice PA ll pc] 70 (0, 0)) * (pts g2 (.cells #[.slice A n c] 30 (0, 0)) * S)))))) := by
    have h3 := @SepI.i_alloc _ (.cells #[.slice (some ⟨gl, 0, none⟩) 0 0] 30 (0, 0)) _ g5 (OwnE.lit0 H1) ⟨by simp only [World.size_alloc]; omega⟩
    unfold OwnE at h3
    rw [star_assoc] at h3
    exact h3
  go_enter Try.func60, Try.ntmps60
  go_wp2
  rw [← hg2, ← hg3, ← hg4, ← hgl, ← hg5]
  clear hg2 hg3 hg4 hgl hg5 H0 H1
  go_loopw [6] (fun v6 wr => ∃ (i : Nat) (u : Int) (vv : Value) (d : List EN), i ≤ n + 1 ∧ Hd (u = (i : Int) - 1) ∧ v6 = .int .i64 u ∧ ExtI w wr ∧ Hd (d.length = i) ∧ Hd (d.map ecOf = (NE.take i).map upEC) ∧ SepI wr (pts g5 (.cells #[vv] 30 (0, 0)) * (Row 70 3 vv d.length (cENs d) * (stars (d.map OwnI) * (pts g4 (.cells #[.slice none 0 0] 30 (0, 0)) * (pts g3 (.cells #[.int .i64 K, .int .i64 C, .slice PA ll pc] 70 (0, 0)) * (pts g2 (.cells #[.slice A n c] 30 (0, 0)) * S))))))) (fun v _ => n + 1 - (intOf v + 1).toNat)
  case atStart => exact ⟨0, -1, .slice (some ⟨gl, 0, none⟩) 0 0, [], by omega, ⟨rfl⟩, rfl, inferInstance, ⟨rfl⟩, ⟨rfl⟩, H2⟩
  case round =>
    obtain ⟨i, u, vv, d, hi, HU, rfl, HX3, HDL, HDM, HS3⟩ := hrel
    clear H2
    obtain ⟨A3, c3, rfl, hc3, hc3'⟩ := Row.form (SepI.cast HS3 (star_left _ _ _))
    obtain ⟨m, hm⟩ : ∃ m, m = d.length := ⟨_, rfl⟩
    have HM := Hd.mk hm
    have hm13 : m ≤ 13 := by rw [hm, HDL.out]; omega
    rw [← hm] at HS3 hc3
    clear hm
    obtain ⟨g7, hg7⟩ : ∃ g7, g7 = wr.heap.size := ⟨_, rfl⟩
    obtain ⟨g8, hg8⟩ : ∃ g8, g8 = g7 + 1 := ⟨_, rfl⟩
    by_cases hlt : i < n + 1
    · cases i with
      | zero =>
        obtain rfl : u = -1 := by have := HU.out; omega
        have HN0 : Hd (NE[0]? = some (K, C, l)) := ⟨by rw [HNE.out]; rfl⟩
        go_wp2
        rw [← hg7, ← hg8]
        have HS5 : SepI ((wr.alloc (.cells #[.int .i64 K, .int .i64 C, .slice PA ll pc] 70 (0, 0))).alloc (.cells #[] 3 (0, 0))) (Row 3 1 (.slice (some ⟨g8, 0, none⟩) 0 0) 0 [] * (pts g7 (.cells #[.int .i64 K, .int .i64 C, .slice PA ll pc] 70 (0, 0)) * (pts g5 (.cells #[(.slice A3 m c3)] 30 (0, 0)) * (Row 70 3 (.slice A3 m c3) m (cENs d) * (stars (d.map OwnI) * (pts g4 (.cells #[.slice none 0 0] 30 (0, 0)) * (pts g3 (.cells #[.int .i64 K, .int .i64 C, .slice PA ll pc] 70 (0, 0)) * (pts g2 (.cells #[.slice A n c] 30 (0, 0)) * S)))))))) := by
          rw [hg8, hg7]
          exact Row.lit0 (SepI.i_alloc _ (.cells #[] 3 (0, 0)) _ _)
        clear hg7 hg8
        obtain ⟨J, hJ⟩ : ∃ J : Nat → List Int, J = fun j => (l.take j).map (· + 1) := ⟨_, rfl⟩
        have HJ0 : Hd (J 0 = []) := ⟨by rw [hJ]; rfl⟩
        have HJS : Hd (∀ (j : Nat) (y : Int), l[j]? = some y → J (j + 1) = J j ++ [y + 1]) := ⟨fun j y h => by rw [hJ]; simp only; rw [take_succ_eq h, List.map_append]; rfl⟩
        have HJL : Hd ((J ll).length = ll ∧ J ll = l.map (· + 1)) := ⟨by rw [hJ]; simp only; rw [HLL.out, List.take_length]; exact ⟨by simp, rfl⟩⟩
        clear hJ
        go_loopw [8, 9] (fun v8 v9 wx => ∃ (j : Nat) (vv : Value), j ≤ ll ∧ v9 = .int .i64 j ∧ v8 = vv ∧ ExtI w wx ∧ SepI wx (Row 3 1 vv j (ints (J j)) * (pts g7 (.cells #[.int .i64 K, .int .i64 C, .slice PA ll pc] 70 (0, 0)) * (pts g5 (.cells #[(.slice A3 m c3)] 30 (0, 0)) * (Row 70 3 (.slice A3 m c3) m (cENs d) * (stars (d.map OwnI) * (pts g4 (.cells #[.slice none 0 0] 30 (0, 0)) * (pts g3 (.cells #[.int .i64 K, .int .i64 C, .slice PA ll pc] 70 (0, 0)) * (pts g2 (.cells #[.slice A n c] 30 (0, 0)) * S))))))))) (fun _ v _ => ll - (intOf v).toNat)
        case atStart => exact ⟨0, .slice (some ⟨g8, 0, none⟩) 0 0, by omega, rfl, rfl, inferInstance, SepI.cast HS5 (by rw [HJ0.out]; rfl)⟩
        case round =>
          obtain ⟨j, vv, hj, rfl, rfl, HX6, HS6⟩ := hrel
          obtain ⟨A8, c8, rfl, hc8, hc8'⟩ := Row.form HS6
          by_cases hlj : j < ll
          · obtain ⟨y, hy⟩ := get_ex (xs := l) (k := j) (by rw [← HLL.out]; exact hlj)
            obtain ⟨bp, op, rfl⟩ := HRL.out.addr H (j := j) (by rw [ints_len, ← HLL.out]; omega)
            have e1 := HRL.out.cell (ints_get hy)
            obtain ⟨hy0, hy1⟩ := HBD.out y (List.mem_of_getElem? hy)
            have HJN := Hd.mk (HJS.out j y hy)
            clear hy
            go_wp2_with (at_builtin; go_must (refine ev_append (v := .slice A8 j c8) rfl _ _ 34 rfl rfl 8 _ Try.underlying34 info_int rfl (by decide) (by decide) wr.heap.size 1 1 rfl rfl (by simp [Value.oneCell']) (by omega) ?_); intro v1 w7 HS7 HE7)
            go_roundw
            case rel => exact ⟨j + 1, by omega, by go_num, SepI.cast (Ent.sep (S := _) (T := Row 3 1 v1 (j + 1) (ints (J j) ++ [.int .i64 (y + 1)]) * (pts g7 (.cells #[.int .i64 K, .int .i64 C, .slice (some ⟨bp, op, none⟩) ll pc] 70 (0, 0)) * (pts g5 (.cells #[(.slice A3 m c3)] 30 (0, 0)) * (Row 70 3 (.slice A3 m c3) m (cENs d) * (stars (d.map OwnI) * (pts g4 (.cells #[.slice none 0 0] 30 (0, 0)) * (pts g3 (.cells #[.int .i64 K, .int .i64 C, .slice (some ⟨bp, op, none⟩) ll pc] 70 (0, 0)) * (pts g2 (.cells #[.slice A n c] 30 (0, 0)) * S)))))))) inferInstance HS7) (by rw [HJN.out, ints_append]; rfl)⟩
            case measure => (simp [intOf]; try omega)
          · obtain rfl : ll = j := by omega
            go_wp2_with (at_builtin; go_must (refine ev_append (v := .slice A3 m c3) rfl _ _ 28 rfl rfl 40 _ Try.underlying28 info_node rfl (by decide) (by decide) wr.heap.size 1 1 rfl rfl (by simp [Value.oneCell']) (by omega) ?_); intro v5 w9 HS9 HE9; obtain ⟨A5, c5, rfl, hc5, hc5'⟩ := Row.form HS9)
            go_roundw
            case rel => exact ⟨1, 0, .slice A5 (m + 1) c5, d ++ [⟨K, C, A8, c8, J ll⟩], by omega, ⟨by omega⟩, by go_num, inferInstance, ⟨by rw [List.length_append, HDL.out]; rfl⟩, ⟨by rw [List.map_append, HDM.out, take_succ_eq HN0.out, List.map_append]; show _ ++ [((K, C, J ll) : EC)] = _; rw [HJL.out.2]; rfl⟩,
              SepI.cast (Ent.sep (S := _) (T := Row 70 3 (.slice A5 (m + 1) c5) (m + 1) (cENs d ++ [.int .i64 K, .int .i64 C, .slice A8 ll c8]) * (Row 3 1 (.slice A8 ll c8) ll (ints (J ll)) * (stars (d.map OwnI) * (pts g5 (.cells (#[Value.slice A3 m c3].setIfInBounds 0 (.slice A5 (m + 1) c5)) 30 (0, 0)) * (pts g4 (.cells #[.slice none 0 0] 30 (0, 0)) * (pts g3 (.cells #[.int .i64 K, .int .i64 C, .slice PA ll pc] 70 (0, 0)) * (pts g2 (.cells #[.slice A n c] 30 (0, 0)) * S))))))) inferInstance inferInstance) (by
                have h := OwnE.snoc' (v := .slice A5 (m + 1) c5) (d := d) (x := ⟨K, C, A8, c8, J ll⟩) HM.out (F := (pts g4 (.cells #[.slice none 0 0] 30 (0, 0)) * (pts g3 (.cells #[.int .i64 K, .int .i64 C, .slice PA ll pc] 70 (0, 0)) * (pts g2 (.cells #[.slice A n c] 30 (0, 0)) * S)))) (G := pts g5 (.cells #[.slice A5 (m + 1) c5] 30 (0, 0)))
                simp only [HJL.out.1] at h
                exact h)⟩
            case measure => (simp [intOf]; try omega)
      | succ k =>
        obtain rfl : u = (k : Int) := by have := HU.out; omega
        obtain ⟨x, hx⟩ := get_ex (xs := es) (k := k) (by rw [← HN.out]; omega)
        obtain ⟨hx12, hxb⟩ := HSM.out x (List.mem_of_getElem? hx)
        have hxr := HB.out.rd x (List.mem_of_getElem? hx)
        have HNk : Hd (NE[k + 1]? = some (ecOf x)) := ⟨by rw [HNE.out, List.getElem?_cons_succ, List.getElem?_map, hx]; rfl⟩
        obtain ⟨b0, off, rfl⟩ := r.addr H (j := k * 3) (by rw [cENs_len, ← HN.out]; omega)
        have d1 : CellAt S b0 (off + k * 3) _ := HR.out.cell (cENs_get hx).1
        have d2 : CellAt S b0 (off + k * 3 + 1) _ := HR.out.cell (cENs_get hx).2.1
        have d3 : CellAt S b0 (off + k * 3 + 2) _ := HR.out.cell (cENs_get hx).2.2
        clear hx
        obtain ⟨xk, xc, xp, xpc, xl⟩ := x
        simp only [ecOf] at hx12 hxb d1 d2 d3 hxr HNk
        obtain ⟨le, hle⟩ : ∃ le, le = xl.length := ⟨_, rfl⟩
        have HLE := Hd.mk hle
        have HXB := Hd.mk hxb
        have HXR := Hd.mk hxr
        rw [← hle] at d3 hx12
        clear hle hxb
        go_wp2
        rw [← hg7, ← hg8]
        have HS5 : SepI ((wr.alloc (.cells #[.int .i64 xk, .int .i64 xc, .slice xp le xpc] 70 (0, 0))).alloc (.cells #[] 3 (0, 0))) (Row 3 1 (.slice (some ⟨g8, 0, none⟩) 0 0) 0 [] * (pts g7 (.cells #[.int .i64 xk, .int .i64 xc, .slice xp le xpc] 70 (0, 0)) * (pts g5 (.cells #[(.slice A3 m c3)] 30 (0, 0)) * (Row 70 3 (.slice A3 m c3) m (cENs d) * (stars (d.map OwnI) * (pts g4 (.cells #[.slice none 0 0] 30 (0, 0)) * (pts g3 (.cells #[.int .i64 K, .int .i64 C, .slice PA ll pc] 70 (0, 0)) * (pts g2 (.cells #[.slice (some ⟨b0, off, none⟩) n c] 30 (0, 0)) * S)))))))) := by
          rw [hg8, hg7]
          exact Row.lit0 (SepI.i_alloc _ (.cells #[] 3 (0, 0)) _ _)
        clear hg7 hg8
        obtain ⟨J, hJ⟩ : ∃ J : Nat → List Int, J = fun j => (xl.take j).map (· + 1) := ⟨_, rfl⟩
        have HJ0 : Hd (J 0 = []) := ⟨by rw [hJ]; rfl⟩
        have HJS : Hd (∀ (j : Nat) (y : Int), xl[j]? = some y → J (j + 1) = J j ++ [y + 1]) := ⟨fun j y h => by rw [hJ]; simp only; rw [take_succ_eq h, List.map_append]; rfl⟩
        have HJL : Hd ((J le).length = le ∧ J le = xl.map (· + 1)) := ⟨by rw [hJ]; simp only; rw [HLE.out, List.take_length]; exact ⟨by simp, rfl⟩⟩
        clear hJ
        go_loopw [8, 9] (fun v8 v9 wx => ∃ (j : Nat) (vv : Value), j ≤ le ∧ v9 = .int .i64 j ∧ v8 = vv ∧ ExtI w wx ∧ SepI wx (Row 3 1 vv j (ints (J j)) * (pts g7 (.cells #[.int .i64 xk, .int .i64 xc, .slice xp le xpc] 70 (0, 0)) * (pts g5 (.cells #[(.slice A3 m c3)] 30 (0, 0)) * (Row 70 3 (.slice A3 m c3) m (cENs d) * (stars (d.map OwnI) * (pts g4 (.cells #[.slice none 0 0] 30 (0, 0)) * (pts g3 (.cells #[.int .i64 K, .int .i64 C, .slice PA ll pc] 70 (0, 0)) * (pts g2 (.cells #[.slice (some ⟨b0, off, none⟩) n c] 30 (0, 0)) * S))))))))) (fun _ v _ => le - (intOf v).toNat)
        case atStart => exact ⟨0, .slice (some ⟨g8, 0, none⟩) 0 0, by omega, rfl, rfl, inferInstance, SepI.cast HS5 (by rw [HJ0.out]; rfl)⟩
        case round =>
          obtain ⟨j, vv, hj, rfl, rfl, HX6, HS6⟩ := hrel
          obtain ⟨A8, c8, rfl, hc8, hc8'⟩ := Row.form HS6
          by_cases hlj : j < le
          · obtain ⟨y, hy⟩ := get_ex (xs := xl) (k := j) (by rw [← HLE.out]; exact hlj)
            obtain ⟨bp, op, rfl⟩ := HXR.out.addr H (j := j) (by rw [ints_len, ← HLE.out]; omega)
            have e1 := HXR.out.cell (ints_get hy)
            obtain ⟨hy0, hy1⟩ := HXB.out y (List.mem_of_getElem? hy)
            have HJN := Hd.mk (HJS.out j y hy)
            clear hy
            go_wp2_with (at_builtin; go_must (refine ev_append (v := .slice A8 j c8) rfl _ _ 34 rfl rfl 8 _ Try.underlying34 info_int rfl (by decide) (by decide) wr.heap.size 1 1 rfl rfl (by simp [Value.oneCell']) (by omega) ?_); intro v1 w7 HS7 HE7)
            go_roundw
            case rel => exact ⟨j + 1, by omega, by go_num, SepI.cast (Ent.sep (S := _) (T := Row 3 1 v1 (j + 1) (ints (J j) ++ [.int .i64 (y + 1)]) * (pts g7 (.cells #[.int .i64 xk, .int .i64 xc, .slice (some ⟨bp, op, none⟩) le xpc] 70 (0, 0)) * (pts g5 (.cells #[(.slice A3 m c3)] 30 (0, 0)) * (Row 70 3 (.slice A3 m c3) m (cENs d) * (stars (d.map OwnI) * (pts g4 (.cells #[.slice none 0 0] 30 (0, 0)) * (pts g3 (.cells #[.int .i64 K, .int .i64 C, .slice PA ll pc] 70 (0, 0)) * (pts g2 (.cells #[.slice (some ⟨b0, off, none⟩) n c] 30 (0, 0)) * S)))))))) inferInstance HS7) (by rw [HJN.out, ints_append]; rfl)⟩
            case measure => (simp [intOf]; try omega)
          · obtain rfl : le = j := by omega
            go_wp2_with (at_builtin; go_must (refine ev_append (v := .slice A3 m c3) rfl _ _ 28 rfl rfl 40 _ Try.underlying28 info_node rfl (by decide) (by decide) wr.heap.size 1 1 rfl rfl (by simp [Value.oneCell']) (by omega) ?_); intro v5 w9 HS9 HE9; obtain ⟨A5, c5, rfl, hc5, hc5'⟩ := Row.form HS9)
            go_roundw
            case rel => exact ⟨k + 2, (k : Int) + 1, .slice A5 (m + 1) c5, d ++ [⟨xk, xc, A8, c8, J le⟩], by omega, ⟨by omega⟩, by go_num, inferInstance, ⟨by rw [List.length_append, HDL.out]; rfl⟩, ⟨by rw [List.map_append, HDM.out, take_succ_eq HNk.out, List.map_append]; show _ ++ [((xk, xc, J le) : EC)] = _; rw [HJL.out.2]; rfl⟩,
              SepI.cast (Ent.sep (S := _) (T := Row 70 3 (.slice A5 (m + 1) c5) (m + 1) (cENs d ++ [.int .i64 xk, .int .i64 xc, .slice A8 le c8]) * (Row 3 1 (.slice A8 le c8) le (ints (J le)) * (stars (d.map OwnI) * (pts g5 (.cells (#[Value.slice A3 m c3].setIfInBounds 0 (.slice A5 (m + 1) c5)) 30 (0, 0)) * (pts g4 (.cells #[.slice none 0 0] 30 (0, 0)) * (pts g3 (.cells #[.int .i64 K, .int .i64 C, .slice PA ll pc] 70 (0, 0)) * (pts g2 (.cells #[.slice (some ⟨b0, off, none⟩) n c] 30 (0, 0)) * S))))))) inferInstance inferInstance) (by
                have h := OwnE.snoc' (v := .slice A5 (m + 1) c5) (d := d) (x := ⟨xk, xc, A8, c8, J le⟩) HM.out (F := (pts g4 (.cells #[.slice none 0 0] 30 (0, 0)) * (pts g3 (.cells #[.int .i64 K, .int .i64 C, .slice PA ll pc] 70 (0, 0)) * (pts g2 (.cells #[.slice (some ⟨b0, off, none⟩) n c] 30 (0, 0)) * S)))) (G := pts g5 (.cells #[.slice A5 (m + 1) c5] 30 (0, 0)))
                simp only [HJL.out.1] at h
                exact h)⟩
            case measure => (simp [intOf]; try omega)
    · obtain rfl : n + 1 = i := by omega
      obtain rfl : u = (n : Int) := by have := HU.out; omega
      go_wp2
      refine bodyPost_ret (v := .agg #[.slice A3 m c3]) (by simp [results, Try.results60, go_sem]) rfl ?_
      refine ⟨A3, c3, d, by rw [← HM.out], by rw [HDM.out, HNF.out], Post.mk' (SepI.cast (Ent.sep (S := _) (T := Row 70 3 (.slice A3 m c3) m (cENs d) * (stars (d.map OwnI) * S)) inferInstance inferInstance) ?_) inferInstance⟩
      unfold OwnE
      rw [← HM.out, star_assoc]
end Go.Proofs.Ytnmbmdigiaokjaa
