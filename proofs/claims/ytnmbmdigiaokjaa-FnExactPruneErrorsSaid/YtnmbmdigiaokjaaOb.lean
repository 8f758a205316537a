/- New errors: a new error ahead, by the program. Conditions: lengths within bounds. -/
import Derived.Test.YtnmbmdigiaokjaaOa
import Derived.Test.YtnmbmdigiaokjaaDr
namespace Go.Proofs.Ytnmbmdigiaokjaa
open Go.RowKit SL
attribute [local go_sem] cell_blk frozen_blk lt_blk cell_at frozen_row lt_row
set_option linter.unusedVariables false
set_option linter.unusedSimpArgs false

set_option maxRecDepth 100000 in
set_option maxHeartbeats 4000000 in
theorem impl_ahead (S : HP) (w : World) [H : SepI w S] (A : Option Addr) (c : Nat) (es : List EN) [r : Rd S A (cENs es)] [B : Nodes S es] (hpc : PcOk es) (h12 : es.length < 12) (hsm : ∀ x ∈ es, x.l.length ≤ 12 ∧ ∀ y ∈ x.l, 0 ≤ y ∧ y ≤ 12)
    (K C : Int) (PA : Option Addr) (pc : Nat) (l : List Int) [rl : Rd S PA (ints l)] (hA : PA = none → pc = 0) (hl : l.length ≤ 12) (hb : ∀ y ∈ l, 0 ≤ y ∧ y ≤ 12) :
    Calls Try.prog 62 #[.agg #[.slice A es.length c], .int .i64 K, .int .i64 C, .slice PA l.length pc] w (ErrOk S (aheadF K C l (es.map ecOf)) true w) := by
  obtain ⟨n, hn⟩ : ∃ n, n = es.length := ⟨_, rfl⟩
  have HN := Hd.mk hn
  have hn12 : ¬ n = 12 := by omega
  have hn12' : n < 12 := by omega
  have HB := Hd.mk B
  have HR := Hd.mk r
  have HPC := Hd.mk hpc
  have HSM := Hd.mk hsm
  have HBD := Hd.mk hb
  rw [← hn]
  clear hn hpc hsm hb h12
  obtain ⟨g4, hg4⟩ : ∃ g4, g4 = w.heap.size := ⟨_, rfl⟩
  obtain ⟨g8, hg8⟩ : ∃ g8, g8 = g4 + 1 := ⟨_, rfl⟩
  go_enter Try.func62, Try.ntmps62
  have H0 : SepI ((w.alloc (.cells #[.slice A n c] 30 (0, 0))).alloc (.cells #[.slice none 0 0] 30 (0, 0))) (pts g8 (.cells #[.slice none 0 0] 30 (0, 0)) * (pts g4 (.cells #[.slice A n c] 30 (0, 0)) * S)) := by rw [hg8, hg4]; exact SepI.i_alloc _ _ _ _
  go_wp2_with fail
  rw [← hg4, ← hg8]
  clear hg4 hg8
  refine (cloneI _ _ PA pc l (by omega) hA).mono ?_
  rintro e w1 ⟨A1, c1, rfl, HP⟩
  have HS1 := HP.sep
  have HE1 := HP.ext
  clear HP
  obtain ⟨gn, hgn⟩ : ∃ gn, gn = w1.heap.size := ⟨_, rfl⟩
  obtain ⟨g10, hg10⟩ : ∃ g10, g10 = gn + 1 := ⟨_, rfl⟩
  go_wp2
  rw [← hgn, ← hg10]
  have H2 : SepI ((w1.alloc (.cells #[.int .i64 K, .int .i64 C, .slice A1 l.length c1] 70 (0, 0))).alloc (.cells #[.slice (some ⟨gn, 0, none⟩) 1 1] 30 (0, 0))) (pts g10 (.cells #[(.slice (some ⟨gn, 0, none⟩) 1 1)] 30 (0, 0)) * (Row 70 3 (.slice (some ⟨gn, 0, none⟩) 1 1) [(⟨K, C, A1, c1, l⟩ : EN)].length (cENs [(⟨K, C, A1, c1, l⟩ : EN)]) * (stars ([(⟨K, C, A1, c1, l⟩ : EN)].map OwnI) * (pts g8 (.cells #[.slice none 0 0] 30 (0, 0)) * (pts g4 (.cells #[.slice A n c] 30 (0, 0)) * S))))) := by
    have h1 : SepI (w1.alloc (.cells #[.int .i64 K, .int .i64 C, .slice A1 l.length c1] 70 (0, 0))) (pts gn (.cells #[.int .i64 K, .int .i64 C, .slice A1 l.length c1] 70 (0, 0)) * (Row 3 1 (.slice A1 l.length c1) l.length (ints l) * (pts g8 (.cells #[.slice none 0 0] 30 (0, 0)) * (pts g4 (.cells #[.slice A n c] 30 (0, 0)) * S)))) := by rw [hgn]; exact SepI.i_alloc _ _ _ _
    have h2 := OwnE.lit1 (x := ⟨K, C, A1, c1, l⟩) h1
    have h3 := @SepI.i_alloc _ (.cells #[.slice (some ⟨gn, 0, none⟩) 1 1] 30 (0, 0)) _ g10 h2 ⟨by rw [hg10, World.size_alloc, hgn]⟩
    unfold OwnE at h3
    rw [star_assoc] at h3
    exact h3
  clear hgn hg10
  go_loopw [31] (fun v31 wr => ∃ (i : Nat) (vv : Value) (d : List EN), i ≤ n ∧ v31 = .int .i64 i ∧ ExtI w wr ∧ Hd (d.length = i + 1) ∧ Hd (d.map ecOf = (K, C, l) :: (es.take i).map ecOf) ∧ SepI wr (pts g10 (.cells #[vv] 30 (0, 0)) * (Row 70 3 vv d.length (cENs d) * (stars (d.map OwnI) * (pts g8 (.cells #[.slice none 0 0] 30 (0, 0)) * (pts g4 (.cells #[.slice A n c] 30 (0, 0)) * S)))))) (fun v _ => n - (intOf v).toNat)
  case atStart => exact ⟨0, .slice (some ⟨gn, 0, none⟩) 1 1, [(⟨K, C, A1, c1, l⟩ : EN)], by omega, rfl, inferInstance, ⟨rfl⟩, ⟨rfl⟩, H2⟩
  case round =>
    obtain ⟨i, vv, d, hi, rfl, HX3, HDL, HDM, HS3⟩ := hrel
    have hform := Row.form (SepI.cast HS3 (star_left _ _ _))
    obtain ⟨A3, c3, rfl, hc3, hc3'⟩ := hform
    obtain ⟨m, hm⟩ : ∃ m, m = d.length := ⟨_, rfl⟩
    have HM := Hd.mk hm
    have hm13 : m ≤ 13 := by rw [hm, HDL.out]; omega
    rw [← hm] at HS3 hc3
    clear hm
    by_cases hlt : i < n
    · obtain ⟨x, hx⟩ := get_ex (xs := es) (k := i) (by rw [← HN.out]; exact hlt)
      obtain ⟨b0, off, rfl⟩ := r.addr H (j := i * 3) (by rw [cENs_len, ← HN.out]; omega)
      have e1 : CellAt S b0 (off + i * 3) _ := r.cell (cENs_get hx).1
      have e2 : CellAt S b0 (off + i * 3 + 1) _ := r.cell (cENs_get hx).2.1
      have e3 : CellAt S b0 (off + i * 3 + 2) _ := r.cell (cENs_get hx).2.2
      have rx := HB.out.rd x (List.mem_of_getElem? hx)
      have hx12 := (HSM.out x (List.mem_of_getElem? hx)).1
      have hxp := HPC.out x (List.mem_of_getElem? hx)
      have HX0 := Hd.mk hx
      clear hx
      go_wp2_with fail
      refine wp_region_T 12 (by kernel_rfl) (by kernel_rfl) (fun w' => w'.cell? ⟨wr.heap.size, 0, none⟩ = some (.int .i64 x.k) ∧ w'.cell? ⟨wr.heap.size, 1, none⟩ = some (.int .i64 x.c) ∧ w'.cell? ⟨wr.heap.size, 2, none⟩ = some (.slice x.p x.l.length x.pc) ∧ w'.cell? ⟨g10, 0, none⟩ = some (.slice A3 m c3)) ⟨(cell_blk _ _ _ _ _ _ _).trans rfl, (cell_blk _ _ _ _ _ _ _).trans rfl, (cell_blk _ _ _ _ _ _ _).trans rfl, (cell_blk _ _ _ _ _ _ _).trans rfl⟩ (fun hHeld => ?_)
      refine wpAnyT_takeL (i := 0) (v := ?_) rfl (by kernel_rfl) (by kernel_rfl) (by kernel_rfl) (by kernel_rfl) (by kernel_rfl) (fun _ _ _ h => h) (Or.inl ⟨by rfl, ?_⟩) (by assumption) ?_
      rotate_left
      · (intro w hSw; (try dsimp only at hSw); go_simp; try with_reducible rfl)
      try simp only [Act.put, List.setIfInBounds_toArray, List.set_cons_zero, List.set_cons_succ]
      refine wpAnyT_takeL (i := 1) (v := ?_) rfl (by kernel_rfl) (by kernel_rfl) (by kernel_rfl) (by kernel_rfl) (by kernel_rfl) (fun _ _ _ h => h) (Or.inl ⟨by rfl, ?_⟩) (by assumption) ?_
      rotate_left
      · (intro w hSw; (try dsimp only at hSw); go_simp; try with_reducible rfl)
      try simp only [Act.put, List.setIfInBounds_toArray, List.set_cons_zero, List.set_cons_succ]
      refine wpAnyT_takeL (i := 2) (v := ?_) rfl (by kernel_rfl) (by kernel_rfl) (by kernel_rfl) (by kernel_rfl) (by kernel_rfl) (fun _ _ _ h => h) (Or.inl ⟨by rfl, ?_⟩) (by assumption) ?_
      rotate_left
      · (intro w hSw; (try dsimp only at hSw); go_simp; try with_reducible rfl)
      try simp only [Act.put, List.setIfInBounds_toArray, List.set_cons_zero, List.set_cons_succ]
      refine wpAnyT_takeL (i := 3) (v := ?_) rfl (by kernel_rfl) (by kernel_rfl) (by kernel_rfl) (by kernel_rfl) (by kernel_rfl) (fun _ _ _ h => h) (Or.inl ⟨by rfl, ?_⟩) (by assumption) ?_
      rotate_left
      · (intro w hSw; (try dsimp only at hSw); go_simp; try with_reducible rfl)
      try simp only [Act.put, List.setIfInBounds_toArray, List.set_cons_zero, List.set_cons_succ]
      refine wpAnyT_takeL (i := 4) (v := ?_) rfl (by kernel_rfl) (by kernel_rfl) (by kernel_rfl) (by kernel_rfl) (by kernel_rfl) (fun _ _ _ h => h) (Or.inl ⟨by rfl, ?_⟩) (by assumption) ?_
      rotate_left
      · (intro w hSw; (try dsimp only at hSw); go_simp; try with_reducible rfl)
      try simp only [Act.put, List.setIfInBounds_toArray, List.set_cons_zero, List.set_cons_succ]
      refine wpAnyT_takeL (i := 5) (v := ?_) rfl (by kernel_rfl) (by kernel_rfl) (by kernel_rfl) (by kernel_rfl) (by kernel_rfl) (fun _ _ _ h => h) (Or.inl ⟨by rfl, ?_⟩) (by assumption) ?_
      rotate_left
      · (intro w hSw; (try dsimp only at hSw); go_simp; try with_reducible rfl)
      try simp only [Act.put, List.setIfInBounds_toArray, List.set_cons_zero, List.set_cons_succ]
      refine wpAnyT_takeL (i := 6) (v := ?_) rfl (by kernel_rfl) (by kernel_rfl) (by kernel_rfl) (by kernel_rfl) (by kernel_rfl) (fun _ _ _ h => h) (Or.inl ⟨by rfl, ?_⟩) (by assumption) ?_
      rotate_left
      · (intro w hSw; (try dsimp only at hSw); go_simp; try with_reducible rfl)
      try simp only [Act.put, List.setIfInBounds_toArray, List.set_cons_zero, List.set_cons_succ]
      refine wpAnyT_takeL (i := 7) (v := ?_) rfl (by kernel_rfl) (by kernel_rfl) (by kernel_rfl) (by kernel_rfl) (by kernel_rfl) (fun _ _ _ h => h) (Or.inl ⟨by rfl, ?_⟩) (by assumption) ?_
      rotate_left
      · (intro w hSw; (try dsimp only at hSw); go_simp; try with_reducible rfl)
      try simp only [Act.put, List.setIfInBounds_toArray, List.set_cons_zero, List.set_cons_succ]
      refine wpAnyT_one (i := 8) (by kernel_rfl) rfl (by kernel_rfl) (fun KK hKK => ?_)
      refine st_list rfl ?_
      go_wp2_with (go_at_call 95; refine (cloneI _ _ x.p x.pc x.l (by omega) hxp).mono ?_; rintro e w4 ⟨A4, c4, rfl, HP⟩; have HS4 := HP.sep; have HE4 := HP.ext; clear HP)
      refine ⟨rfl, ?_⟩
      refine hKK.out _ _ ⟨(cell_blk _ _ _ _ _ _ _).trans rfl, (cell_blk _ _ _ _ _ _ _).trans rfl, (cell_blk _ _ _ _ _ _ _).trans rfl, (cell_blk _ _ _ _ _ _ _).trans rfl⟩ (fun hHeld => ?_)
      clear hKK KK
      try simp only [Act.put, List.setIfInBounds_toArray, List.set_cons_zero, List.set_cons_succ]
      refine wpAnyT_takeL (i := 9) (v := ?_) rfl (by kernel_rfl) (by kernel_rfl) (by kernel_rfl) (by kernel_rfl) (by kernel_rfl) (fun _ _ _ h => h) (Or.inl ⟨by rfl, ?_⟩) (by assumption) ?_
      rotate_left
      · (intro w hSw; (try dsimp only at hSw); go_simp; try with_reducible rfl)
      try simp only [Act.put, List.setIfInBounds_toArray, List.set_cons_zero, List.set_cons_succ]
      refine wpAnyT_one (i := 10) (by kernel_rfl) rfl (by kernel_rfl) (fun KK hKK => ?_)
      refine st_list rfl ?_
      go_wp2
      refine ⟨rfl, ?_⟩
      refine hKK.out _ _ ⟨(cell_blk _ _ _ _ _ _ _).trans rfl, (cell_blk _ _ _ _ _ _ _).trans rfl, (cell_blk _ _ _ _ _ _ _).trans rfl, (cell_blk _ _ _ _ _ _ _).trans rfl⟩ (fun hHeld => ?_)
      clear hKK KK
      try simp only [Act.put, List.setIfInBounds_toArray, List.set_cons_zero, List.set_cons_succ]
      refine wpAnyT_one (i := 11) (by kernel_rfl) rfl (by kernel_rfl) (fun KK hKK => ?_)
      refine st_list rfl (ev_append (v := .slice A3 m c3) rfl _ _ 28 rfl rfl 40 _ Try.underlying28 info_node rfl (by decide) (by decide) w4.heap.size 1 1 rfl rfl (by simp [Value.oneCell']) (by omega) ?_)
      intro v5 w5 HS5 HE5
      obtain ⟨A5, c5, rfl, hc5, hc5'⟩ := Row.form HS5
      refine ⟨rfl, ?_⟩
      refine hKK.out _ _ ⟨(cell_blk _ _ _ _ _ _ _).trans rfl, (cell_blk _ _ _ _ _ _ _).trans rfl, (cell_blk _ _ _ _ _ _ _).trans rfl, (cell_blk _ _ _ _ _ _ _).trans rfl⟩ (fun hHeld => ?_)
      clear hKK KK
      try simp only [Act.put, List.setIfInBounds_toArray, List.set_cons_zero, List.set_cons_succ]
      refine wpAnyT_done (by kernel_rfl) ?_
      go_wp2
      go_roundw
      case rel => exact ⟨i + 1, .slice A5 (m + 1) c5, d ++ [⟨x.k, x.c, A4, c4, x.l⟩], by omega, by go_num, inferInstance, ⟨by rw [List.length_append, HDL.out]; rfl⟩, ⟨by rw [List.map_append, HDM.out, take_succ_eq HX0.out, List.map_append]; rfl⟩,
        SepI.cast (Ent.sep (S := _) (T := Row 70 3 (.slice A5 (m + 1) c5) (m + 1) (cENs d ++ [.int .i64 x.k, .int .i64 x.c, .slice A4 x.l.length c4]) * (Row 3 1 (.slice A4 x.l.length c4) x.l.length (ints x.l) * (stars (d.map OwnI) * (pts g10 (.cells (#[Value.slice A3 m c3].setIfInBounds 0 (.slice A5 (m + 1) c5)) 30 (0, 0)) * (pts g8 (.cells #[.slice none 0 0] 30 (0, 0)) * (pts g4 (.cells #[.slice (some ⟨b0, off, none⟩) n c] 30 (0, 0)) * S)))))) inferInstance inferInstance) (OwnE.snoc' (x := ⟨x.k, x.c, A4, c4, x.l⟩) HM.out)⟩
      case measure => (simp [intOf]; try omega)
    · obtain rfl : n = i := by omega
      have hdm : d.map ecOf = (K, C, l) :: es.map ecOf := by rw [HDM.out, HN.out, List.take_length]
      have HDE := Hd.mk hdm
      have HDS : Hd (∀ x ∈ d, x.l.length ≤ 12 ∧ ∀ y ∈ x.l, 0 ≤ y ∧ y ≤ 12) := ⟨fun x hx => by
        have hm : ecOf x ∈ (K, C, l) :: es.map ecOf := by rw [← hdm]; exact List.mem_map.2 ⟨x, hx, rfl⟩
        rcases List.mem_cons.1 hm with h | h
        · have : x.l = l := congrArg (fun e : EC => e.2.2) h
          rw [this]; exact ⟨hl, HBD.out⟩
        · obtain ⟨y, hy, he⟩ := List.mem_map.1 h
          have : x.l = y.l := (congrArg (fun e : EC => e.2.2) he).symm
          rw [this]; exact HSM.out y hy⟩
      obtain ⟨U, hU⟩ : ∃ U : Nat → List EN, U = fun t => (d.take t).map upEN ++ d.drop t := ⟨_, rfl⟩
      have HU0 : Hd (U 0 = d) := ⟨by rw [hU]; rfl⟩
      have HUM : Hd (U m = d.map upEN) := ⟨by rw [hU, HM.out]; simp⟩
      have HUS : Hd (∀ t x, d[t]? = some x → ∃ a b, U t = a ++ x :: b ∧ U (t + 1) = a ++ upEN x :: b) := ⟨fun t x h => ⟨(d.take t).map upEN, d.drop (t + 1), by
        obtain ⟨hlt', e⟩ := List.getElem?_eq_some_iff.1 h
        rw [hU]; simp only; rw [List.drop_eq_getElem_cons hlt', e], by rw [hU]; simp only; rw [take_succ_eq h, List.map_append, List.append_assoc]; rfl⟩⟩
      clear hdm hU
      go_wp2
      obtain ⟨g3, rfl⟩ := Row.addr (SepI.cast HS3 (star_left _ _ _)) (by have := HDL.out; have := HM.out; omega)
      go_loopw [52] (fun v52 wr => ∃ (t : Nat), t ≤ m ∧ v52 = .int .i64 t ∧ ExtI w wr ∧ SepI wr (pts g10 (.cells #[(.slice (some ⟨g3, 0, none⟩) m c3)] 30 (0, 0)) * (Row 70 3 (.slice (some ⟨g3, 0, none⟩) m c3) m (cENs d) * (stars ((U t).map OwnI) * (pts g8 (.cells #[.slice none 0 0] 30 (0, 0)) * (pts g4 (.cells #[.slice A n c] 30 (0, 0)) * S)))))) (fun v _ => m - (intOf v).toNat)
      case atStart => exact ⟨0, by omega, rfl, inferInstance, SepI.cast HS3 (by rw [HU0.out])⟩
      case round =>
        obtain ⟨t, ht, rfl, HX5, HS5⟩ := hrel
        by_cases hlt3 : t < m
        · obtain ⟨x, hx⟩ := get_ex (xs := d) (k := t) (by rw [← HM.out]; exact hlt3)
          obtain ⟨a, b, hu1, hu2⟩ := HUS.out t x hx
          obtain ⟨hx12, hxb⟩ := HDS.out x (List.mem_of_getElem? hx)
          have d1 : CellAt _ g3 (t * 3) _ := Row.cellAt (e := 70) (size := 3) (g := g3) (n := m) (c := c3) (F := stars ((a ++ b).map OwnI) * (pts g8 (.cells #[.slice none 0 0] 30 (0, 0)) * (pts g4 (.cells #[.slice A n c] 30 (0, 0)) * S))) (cENs_get hx).1
          have d2 : CellAt _ g3 (t * 3 + 1) _ := Row.cellAt (e := 70) (size := 3) (g := g3) (n := m) (c := c3) (F := stars ((a ++ b).map OwnI) * (pts g8 (.cells #[.slice none 0 0] 30 (0, 0)) * (pts g4 (.cells #[.slice A n c] 30 (0, 0)) * S))) (cENs_get hx).2.1
          have d3 : CellAt _ g3 (t * 3 + 2) _ := Row.cellAt (e := 70) (size := 3) (g := g3) (n := m) (c := c3) (F := stars ((a ++ b).map OwnI) * (pts g8 (.cells #[.slice none 0 0] 30 (0, 0)) * (pts g4 (.cells #[.slice A n c] 30 (0, 0)) * S))) (cENs_get hx).2.2
          obtain ⟨xk, xc, xp, xpc, xl⟩ := x
          simp only at hx12 hxb d1 d2 d3
          obtain ⟨le, hle⟩ : ∃ le, le = xl.length := ⟨_, rfl⟩
          have HLE := Hd.mk hle
          rw [← hle] at d3 hx12
          have HS6 : SepI wr (Row 3 1 (.slice xp le xpc) le (ints (xl)) * (pts g10 (.cells #[(.slice (some ⟨g3, 0, none⟩) m c3)] 30 (0, 0)) * (Row 70 3 (.slice (some ⟨g3, 0, none⟩) m c3) m (cENs d) * (stars ((a ++ b).map OwnI) * (pts g8 (.cells #[.slice none 0 0] 30 (0, 0)) * (pts g4 (.cells #[.slice A n c] 30 (0, 0)) * S)))))) := SepI.cast HS5 (by
            rw [hu1, starsE_upd a b _ zEN]
            unfold OwnI
            simp only
            rw [← hle]
            ac_rfl)
          have HU2 := Hd.mk hu2
          have HXB := Hd.mk hxb
          obtain ⟨g14, hg14⟩ : ∃ g14, g14 = wr.heap.size := ⟨_, rfl⟩
          have HS7 : SepI (wr.alloc (.cells #[.int .i64 xk, .int .i64 xc, .slice xp le xpc] 70 (0, 0))) (pts g14 (.cells #[.int .i64 xk, .int .i64 xc, .slice xp le xpc] 70 (0, 0)) * (Row 3 1 (.slice xp le xpc) le (ints (xl)) * (pts g10 (.cells #[(.slice (some ⟨g3, 0, none⟩) m c3)] 30 (0, 0)) * (Row 70 3 (.slice (some ⟨g3, 0, none⟩) m c3) m (cENs d) * (stars ((a ++ b).map OwnI) * (pts g8 (.cells #[.slice none 0 0] 30 (0, 0)) * (pts g4 (.cells #[.slice A n c] 30 (0, 0)) * S))))))) := by rw [hg14]; exact SepI.i_alloc _ _ _ _
          clear hx hu1 hu2 hle hxb HS5
          go_wp2
          rw [← hg14]
          clear hg14
          go_loopw [59] (fun v59 wx => ∃ (j : Nat), j ≤ le ∧ v59 = .int .i64 j ∧ ExtI w wx ∧ SepI wx (pts g14 (.cells #[.int .i64 xk, .int .i64 xc, .slice xp le xpc] 70 (0, 0)) * (Row 3 1 (.slice xp le xpc) le (ints ((xl.take j).map (· + 1) ++ xl.drop j)) * (pts g10 (.cells #[(.slice (some ⟨g3, 0, none⟩) m c3)] 30 (0, 0)) * (Row 70 3 (.slice (some ⟨g3, 0, none⟩) m c3) m (cENs d) * (stars ((a ++ b).map OwnI) * (pts g8 (.cells #[.slice none 0 0] 30 (0, 0)) * (pts g4 (.cells #[.slice A n c] 30 (0, 0)) * S)))))))) (fun v _ => le - (intOf v).toNat)
          case atStart => exact ⟨0, by omega, rfl, inferInstance, SepI.cast HS7 (by simp)⟩
          case round =>
            obtain ⟨j, hj, rfl, HX8, HS8⟩ := hrel
            clear HS7
            by_cases hlj : j < le
            · obtain ⟨y, hy⟩ := get_ex (xs := xl) (k := j) (by rw [← HLE.out]; exact hlj)
              obtain ⟨gp, rfl⟩ := Row.addr (A := xp) (e := 3) (size := 1) (n := le) (c := xpc) (cs := ints ((xl.take j).map (· + 1) ++ xl.drop j)) (SepI.pick HS8 inferInstance) (by omega)
              obtain ⟨hy0, hy1⟩ := HXB.out y (List.mem_of_getElem? hy)
              have hd : xl.drop j = y :: xl.drop (j + 1) := by
                obtain ⟨hlt', e⟩ := List.getElem?_eq_some_iff.1 hy
                rw [List.drop_eq_getElem_cons hlt', e]
              have hl1 : ((xl.take j).map (· + 1)).length = j := by rw [List.length_map, List.length_take, Nat.min_eq_left (by have := HLE.out; omega)]
              have hz : ((xl.take j).map (· + 1) ++ xl.drop j)[j]? = some y := by rw [List.getElem?_append_right (by rw [hl1]; exact Nat.le_refl _), hl1, Nat.sub_self, hd]; rfl
              have e1 : CellAt _ gp j _ := Row.cellAt (e := 3) (size := 1) (g := gp) (n := le) (c := xpc) (F := pts g10 (.cells #[(.slice (some ⟨g3, 0, none⟩) m c3)] 30 (0, 0)) * (Row 70 3 (.slice (some ⟨g3, 0, none⟩) m c3) m (cENs d) * (stars ((a ++ b).map OwnI) * (pts g8 (.cells #[.slice none 0 0] 30 (0, 0)) * (pts g4 (.cells #[.slice A n c] 30 (0, 0)) * S))))) (ints_get hz)
              have HD9 := Hd.mk hd
              have HL9 := Hd.mk hl1
              have HY9 := Hd.mk hy
              clear hy hd hl1 hz
              go_wp2
              have HE9 : Hd ((ints ((xl.take j).map (· + 1) ++ xl.drop j)).set j (.int .i64 (y + 1)) = ints ((xl.take (j + 1)).map (· + 1) ++ xl.drop (j + 1))) := ⟨by
                rw [HD9.out, ints_upd ((xl.take j).map (· + 1)) (xl.drop (j + 1)) y (y + 1) j HL9.out, take_succ_eq HY9.out, List.map_append]; rfl⟩
              go_roundw
              case rel => exact ⟨j + 1, by omega, by go_num, inferInstance, SepI.cast inferInstance (by rw [HE9.out])⟩
              case measure => (simp [intOf]; try omega)
            · obtain rfl : le = j := by omega
              go_wp2
              go_roundw
              case rel => exact ⟨t + 1, by omega, by go_num, inferInstance, SepI.cast (Ent.sep (S := _) (T := Row 3 1 (.slice xp le xpc) le (ints ((xl.take le).map (· + 1) ++ xl.drop le)) * (pts g10 (.cells #[(.slice (some ⟨g3, 0, none⟩) m c3)] 30 (0, 0)) * (Row 70 3 (.slice (some ⟨g3, 0, none⟩) m c3) m (cENs d) * (stars ((a ++ b).map OwnI) * (pts g8 (.cells #[.slice none 0 0] 30 (0, 0)) * (pts g4 (.cells #[.slice A n c] 30 (0, 0)) * S)))))) inferInstance HS8) (by
                rw [HU2.out, starsE_upd a b _ zEN, HLE.out, List.take_length, List.drop_length, List.append_nil]
                unfold OwnI upEN
                simp only [List.length_map]
                ac_rfl)⟩
              case measure => (simp [intOf]; try omega)
        · obtain rfl : m = t := by omega
          go_wp2
          refine bodyPost_ret (v := .tuple #[.agg #[.slice (some ⟨g3, 0, none⟩) m c3], .bool true]) (by simp [results, Try.results62, go_sem]) rfl ?_
          refine ⟨some ⟨g3, 0, none⟩, c3, d.map upEN, by rw [List.length_map, ← HM.out], by unfold aheadF; rw [← HDE.out, List.map_map, List.map_map]; rfl, Post.mk' (SepI.cast (Ent.sep (S := _) (T := Row 70 3 (.slice (some ⟨g3, 0, none⟩) m c3) m (cENs d) * (stars ((U m).map OwnI) * S)) inferInstance inferInstance) ?_) inferInstance⟩
          unfold OwnE
          rw [HUM.out, cENs_up, List.length_map, ← HM.out, star_assoc]
end Go.Proofs.Ytnmbmdigiaokjaa
