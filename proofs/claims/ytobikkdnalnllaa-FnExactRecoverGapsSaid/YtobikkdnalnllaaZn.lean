/- The reading of a trace: l1Own, l4Unwind. Conditions: lengths within bounds. -/
import Derived.Test.YtobikkdnalnllaaZk
namespace Go.Proofs.Ytobikkdnalnllaa
open Go.RowKit SL
attribute [local go_sem] cell_blk frozen_blk lt_blk cell_at frozen_row lt_row
set_option linter.unusedVariables false
set_option linter.unusedSimpArgs false
set_option maxRecDepth 100000 in
set_option maxHeartbeats 8000000 in
theorem spec_l1OwnZ (S : HP) (w : World) [H : SepI w S] (A : Option Addr) (c : Nat) (l : List Int) [r : Rd S A (ints l)] (hn : l.length ≤ 1048576) (hA : A = none → l.length = 0 ∧ c = 0) :
    Calls Try.prog 124 #[.slice A l.length c] w fun e w' => ∃ A' c', e = .returned (.slice A' l.length c') ∧ Post w (Row 3 1 (.slice A' l.length c') l.length (ints l) * S) w' := by
  have HAA := Hd.mk hA
  clear hA
  have HS1 : SepI (w.alloc (.cells #[] 3 (0, 0))) (Row 3 1 (.slice (some ⟨w.heap.size, 0, none⟩) 0 0) 0 [] * S) := Row.lit0 (SepI.i_alloc w (.cells #[] 3 (0, 0)) S _)
  go_enter Try.func124, Try.ntmps124
  go_wp2_with (at_builtin; go_must (refine ev_appendR (H := HS1) (v := .slice (some ⟨w.heap.size, 0, none⟩) 0 0) rfl _ _ 26 rfl rfl 8 _ Try.underlying26 info_int rfl (by decide) (by decide) A l.length c rfl (news := ints l) HAA.out (by rw [ints_len, Nat.mul_one]) (ints_one l) (by omega) ?_); rw [Nat.zero_add, List.nil_append]; intro v1 w2 HS2 HE2; obtain ⟨A', c', rfl, _, _⟩ := Row.form HS2)
  go_ret
  exact ⟨A', c', rfl, Post.mk' HS2 inferInstance⟩
theorem uH_form {w : World} {us : List Uv} {F : HP} (H : SepI w (stars (us.map uH) * F)) : ∀ z ∈ us, ∃ A c, z.v = .slice A z.l.length c := fun z hz => by
  obtain ⟨R, e⟩ := stars_pick (List.mem_map_of_mem (f := uH) hz)
  rw [e, star_assoc] at H
  unfold uH at H
  obtain ⟨A, c, h, _⟩ := Row.form H
  exact ⟨A, c, h⟩
theorem uH_one {w : World} {us : List Uv} {F : HP} (H : SepI w (stars (us.map uH) * F)) : ∀ q ∈ us.map (·.v), q.oneCell' = true := fun q hq => by
  obtain ⟨z, hz, rfl⟩ := List.mem_map.1 hq
  obtain ⟨A, c, h⟩ := uH_form H z hz
  rw [h]; rfl
set_option maxRecDepth 100000 in
set_option maxHeartbeats 8000000 in
theorem spec_l4Unwind0 (S : HP) (w : World) (x : R4V) (r : R4) (e : Ev) (i : Nat) (hi : i ≤ 1000) (B : B4 i r) (hu : x.us.map (·.l) = r.unwound) (t : Bool × Int) (hc : r.calls = [t]) (hok : okN r t.2 = true) [H : SepI w (R4H x r S)] :
    Calls Try.prog 111 #[r4V x r, .agg #[.int .i64 e.k, .int .i64 e.f, .int .i64 e.v]] w (R4P S (unwind4 r e t []) w) := by
  obtain ⟨rest, hrest⟩ : ∃ rest : List (Bool × Int), rest = [] := ⟨_, rfl⟩
  rw [← hrest] at hc
  obtain ⟨ek, ef, ev⟩ := e
  obtain ⟨A1, c1, A2, c2, A3, c3, A4, c4, A5, c5, A6, c6, A7, c7, us⟩ := x
  obtain ⟨ca, pn, dp, un, rv, rp, bf⟩ := r
  simp only at hu hc B
  have hok2 := okN_of hok
  simp only at hok2
  clear hok
  obtain ⟨hb1, hb2, hb3, hb4, hb5, hb6, hb7, hb8, hb9⟩ := B
  simp only at hb1 hb2 hb3 hb4 hb5 hb6 hb7 hb8 hb9
  subst hc
  have hus : us.length = un.length := by rw [← hu, List.length_map]
  obtain ⟨k, hk⟩ : ∃ k, rest.length = k := ⟨_, rfl⟩
  have hk1 : k + 1 ≤ i := by simpa [hk] using hb1
  have l2 : pn.length ≤ 1000 := by omega
  have l3 : dp.length ≤ 1000 := by omega
  have l4 : us.length ≤ 1000 := by omega
  have l5 : rv.length ≤ 1000 := by omega
  have l6 : rp.length ≤ 1000 := by omega
  have l7 : bf.length ≤ 1000 := by omega
  have HEQ : Hd (dp.length = pn.length ∧ us.length = pn.length ∧ rp.length = pn.length ∧ bf.length = pn.length) := ⟨by omega⟩
  have HK := Hd.mk hk
  have HU := Hd.mk hu
  have HB8 := Hd.mk hb8
  have HB9 := Hd.mk hb9
  obtain ⟨cs, hcs⟩ : ∃ cs, cs = (t :: rest).reverse := ⟨_, rfl⟩
  have HCS : Hd (cs = rest.reverse ++ [t]) := ⟨by rw [hcs, List.reverse_cons]⟩
  have H1 : SepI w (Row 147 2 (.slice A1 (k + 1) c1) (k + 1) (cCl cs) * (Row 105 3 (.slice A2 pn.length c2) pn.length (c3s pn) * (Row 3 1 (.slice A3 dp.length c3) dp.length (ints dp) * (Row 26 1 (.slice A4 us.length c4) us.length (us.map (·.v)) * (stars (us.map uH) * (Row 112 2 (.slice A5 rv.length c5) rv.length (cPr rv) * (Row 3 1 (.slice A6 rp.length c6) rp.length (ints rp) * (Row 3 1 (.slice A7 bf.length c7) bf.length (ints bf) * S)))))))) := SepI.cast H (by unfold R4H; simp only [List.length_cons]; rw [hk, ← hcs])
  have hval : r4V ⟨A1, c1, A2, c2, A3, c3, A4, c4, A5, c5, A6, c6, A7, c7, us⟩ ⟨t :: rest, pn, dp, un, rv, rp, bf⟩ = .agg #[.slice A1 (k + 1) c1, .slice A2 pn.length c2, .slice A3 dp.length c3, .slice A4 us.length c4, .slice A5 rv.length c5, .slice A6 rp.length c6, .slice A7 bf.length c7] := by unfold r4V; simp only [List.length_cons]; rw [hk]
  rw [hval]
  clear hval H hcs hk hu hb8 hb9 hb1 hb2 hb3 hb4 hb5 hb6 hb7 hus
  obtain rfl : k = 0 := by rw [← HK.out, hrest]; rfl
  have hget : cs[0]? = some t := by rw [HCS.out, ← HK.out, ← List.length_reverse]; exact last_get rest.reverse t
  have hcap : 0 + 1 ≤ c1 := by
    obtain ⟨A9, c9, h9, h9a, _⟩ := Row.form H1
    injection h9 with _ _ h9b
    omega
  have hcap2 : 0 ≤ c1 := by omega
  obtain ⟨g0, rfl⟩ := Row.addr H1 (by omega)
  have HTK : Hd ((cCl cs).take (0 * 2) = cCl rest.reverse) := ⟨by rw [HCS.out, cCl_append, List.take_left' (by rw [cCl_len, List.length_reverse, HK.out])]⟩
  have b1 : ∀ F : HP, CellAt (Row 147 2 (.slice (some ⟨g0, 0, none⟩) (0 + 1) c1) (0 + 1) (cCl cs) * F) g0 0 (.bool t.1) := fun F => Row.cellAt (cCl_get hget).1
  have b2 : ∀ F : HP, CellAt (Row 147 2 (.slice (some ⟨g0, 0, none⟩) (0 + 1) c1) (0 + 1) (cCl cs) * F) g0 1 (.int .i64 t.2) := fun F => Row.cellAt (cCl_get hget).2
  clear hget
  rw [hrest] at HTK
  obtain ⟨tb, tn⟩ := t
  simp only at hok2 b1 b2
  obtain ⟨u, rfl⟩ : ∃ u : Nat, tn = (u : Int) := ⟨tn.toNat, by omega⟩
  have hul : u < us.length := by have := HEQ.out; omega
  have hup : u < pn.length := by omega
  obtain ⟨y, hy⟩ := get_ex hul
  have hyl : y.l.length ≤ 1000 := by
    have h1 : y.l ∈ un := by rw [← HU.out]; exact List.mem_map.2 ⟨y, List.mem_of_getElem? hy, rfl⟩
    have := HB8.out _ h1
    omega
  obtain ⟨us1, us2, hsp, hsl⟩ : ∃ us1 us2, us = us1 ++ y :: us2 ∧ us1.length = u := by
    obtain ⟨hlt, he⟩ := List.getElem?_eq_some_iff.1 hy
    refine ⟨us.take u, us.drop (u + 1), ?_, by rw [List.length_take]; omega⟩
    rw [← he, ← List.drop_eq_getElem_cons hlt, List.take_append_drop]
  have HST : Hd (stars (us.map uH) = Row 3 1 y.v y.l.length (ints y.l) * stars ((us1 ++ us2).map uH)) := ⟨by rw [hsp, List.map_append, List.map_cons, stars_mid, ← List.map_append]; rfl⟩
  have HSN : Hd (∀ z : Uv, stars ((us.set u z).map uH) = uH z * stars ((us1 ++ us2).map uH)) := ⟨fun z => by
    rw [hsp, ← hsl, List.set_append_right _ _ (Nat.le_refl _), Nat.sub_self, List.set_cons_zero, List.map_append, List.map_cons, stars_mid, ← List.map_append]⟩
  have HGD : Hd (un.getD u [] = y.l) := ⟨by rw [← HU.out, List.getD_eq_getElem?_getD, List.getElem?_map, hy]; rfl⟩
  have HUS : Hd (∀ z : Uv, (us.set u z).map (·.l) = un.set u z.l) := ⟨fun z => by rw [List.map_set, HU.out]⟩
  have HUV : Hd (∀ z : Uv, (us.set u z).map (·.v) = (us.map (·.v)).set u z.v) := ⟨fun z => List.map_set⟩
  have HULN : Hd (∀ z : Uv, (us.set u z).length = us.length) := ⟨fun z => List.length_set⟩
  obtain ⟨yl, yv⟩ := y
  simp only at hyl HST HGD
  have hgetu : (us.map (·.v))[u]? = some yv := by rw [List.getElem?_map, hy]; rfl
  have d4 : ∀ (g c' : Nat) (F : HP), CellAt (Row 26 1 (.slice (some ⟨g, 0, none⟩) us.length c') us.length (us.map (·.v)) * F) g u yv := fun g c' F => Row.cellAt hgetu
  have HD4 := Hd.mk d4
  have HO4 : Hd (∀ q ∈ us.map (·.v), q.oneCell' = true) := ⟨uH_one (show SepI w (stars (us.map uH) * (Row 147 2 (.slice (some ⟨g0, 0, none⟩) (0 + 1) c1) (0 + 1) (cCl cs) * (Row 105 3 (.slice A2 pn.length c2) pn.length (c3s pn) * (Row 3 1 (.slice A3 dp.length c3) dp.length (ints dp) * (Row 26 1 (.slice A4 us.length c4) us.length (us.map (·.v)) * (Row 112 2 (.slice A5 rv.length c5) rv.length (cPr rv) * (Row 3 1 (.slice A6 rp.length c6) rp.length (ints rp) * (Row 3 1 (.slice A7 bf.length c7) bf.length (ints bf) * (S))))))))) from SepI.cast H1 (by ac_rfl))⟩
  rw [HST.out] at H1
  rw [star_assoc] at H1
  have h9 : SepI w (Row 26 1 (.slice A4 us.length c4) us.length (us.map (·.v)) * (Row 147 2 (.slice (some ⟨g0, 0, none⟩) (0 + 1) c1) (0 + 1) (cCl cs) * (Row 105 3 (.slice A2 pn.length c2) pn.length (c3s pn) * (Row 3 1 (.slice A3 dp.length c3) dp.length (ints dp) * (Row 3 1 yv yl.length (ints yl) * (stars ((us1 ++ us2).map uH) * (Row 112 2 (.slice A5 rv.length c5) rv.length (cPr rv) * (Row 3 1 (.slice A6 rp.length c6) rp.length (ints rp) * (Row 3 1 (.slice A7 bf.length c7) bf.length (ints bf) * (S)))))))))) := SepI.cast H1 (by ac_rfl)
  have hn4 : A4 = none → us.length = 0 ∧ c4 = 0 := Row.none_nil h9
  clear h9
  have h8 : SepI w (Row 3 1 yv yl.length (ints yl) * (Row 147 2 (.slice (some ⟨g0, 0, none⟩) (0 + 1) c1) (0 + 1) (cCl cs) * (Row 105 3 (.slice A2 pn.length c2) pn.length (c3s pn) * (Row 3 1 (.slice A3 dp.length c3) dp.length (ints dp) * (Row 26 1 (.slice A4 us.length c4) us.length (us.map (·.v)) * (stars ((us1 ++ us2).map uH) * (Row 112 2 (.slice A5 rv.length c5) rv.length (cPr rv) * (Row 3 1 (.slice A6 rp.length c6) rp.length (ints rp) * (Row 3 1 (.slice A7 bf.length c7) bf.length (ints bf) * (S)))))))))) := SepI.cast H1 (by ac_rfl)
  have HN4 := Hd.mk hn4
  obtain ⟨Ay, cy, rfl, _, _⟩ : ∃ Ay cy, yv = .slice Ay yl.length cy ∧ yl.length ≤ cy ∧ cy ≤ maxLen := Row.form h8
  have hny : Ay = none → yl.length = 0 ∧ cy = 0 := Row.none_nil h8
  have HNY := Hd.mk hny
  have HL4 : Hd ((us.map (·.v)).length = us.length * 1) := ⟨by rw [List.length_map, Nat.mul_one]⟩
  clear hy hsp hgetu d4 hny hn4 hok2 h8
  have HZ2 : Hd (ints yl ++ #[.int .i64 ef].toList = ints (yl ++ [ef])) := ⟨by rw [ints_append]; rfl⟩
  have e4 : unwind4 ⟨(tb, (u : Int)) :: rest, pn, dp, un, rv, rp, bf⟩ ⟨ek, ef, ev⟩ (tb, (u : Int)) [] = ⟨[], fate4 pn u 3, dp, un.set u (yl ++ [ef]), rv, rp, bf⟩ := by
    unfold unwind4
    simp only [Int.toNat_natCast, HGD.out]
  rw [e4]
  clear e4
  go_enter Try.func111, Try.ntmps111
  go_upto_region 4 with (at_builtin; go_must (refine ev_appendR (H := Row.lit0 (size := 1) (SepI.pick (A := pts (w.heap.size + 1 + 1 + 1 + 1) (.cells #[] 26 (0, 0))) inferInstance inferInstance)) (v := .slice (some ⟨w.heap.size + 1 + 1 + 1 + 1, 0, none⟩) 0 0) rfl _ _ 101 rfl rfl 24 _ Try.underlying101 info_sl rfl (by decide) (by decide) A4 us.length c4 rfl (news := us.map (fun z : Uv => z.v)) HN4.out HL4.out HO4.out (by omega) ?_; rw [Nat.zero_add, List.nil_append]; intro v3 w3 HS3 HE3; obtain ⟨A4y, c4y, rfl, _, _⟩ := Row.form HS3; obtain ⟨g4, rfl⟩ := Row.addr HS3 (by omega); have dd4 := HD4.out g4 c4y))
  go_cut [5] (fun v5 wx => v5 = .pointer (some ⟨w.heap.size + 1 + 1 + 1, 0, none⟩) ∧ ExtI w wx ∧ ∃ A9 c9, SepI wx (pts (w.heap.size + 1 + 1 + 1) (.cells #[.bool tb, .int .i64 (u : Int)] 147 (0, 0)) * (pts (w.heap.size + 1 + 1) (.cells #[.slice none 0 0, .slice none 0 0, .slice none 0 0, .slice none 0 0, .slice none 0 0, .slice none 0 0, .slice none 0 0] 103 (0, 0)) * (pts (w.heap.size + 1) (.cells #[.int .i64 ek, .int .i64 ef, .int .i64 ev] 75 (0, 0)) * (pts w.heap.size (.cells (#[Value.slice (some ⟨g0, 0, none⟩) (0) c1, .slice A2 pn.length c2, .slice A3 dp.length c3, .slice A4 us.length c4, .slice A5 rv.length c5, .slice A6 rp.length c6, .slice A7 bf.length c7].setIfInBounds 3 (.slice (some ⟨g4, 0, none⟩) us.length c4y)) 103 (0, 0)) * (Row 147 2 (.slice (some ⟨g0, 0, none⟩) (0 + 1) c1) (0 + 1) (cCl cs) * (Row 105 3 (.slice A2 pn.length c2) pn.length (c3s pn) * (Row 3 1 (.slice A3 dp.length c3) dp.length (ints dp) * (Row 26 1 (.slice (some ⟨g4, 0, none⟩) us.length c4y) us.length ((us.map (·.v)).set u (.slice A9 (yl.length + 1) c9)) * (Row 3 1 (.slice A9 (yl.length + 1) c9) (yl.length + 1) (ints (yl ++ [ef])) * (stars ((us1 ++ us2).map uH) * (Row 112 2 (.slice A5 rv.length c5) rv.length (cPr rv) * (Row 3 1 (.slice A6 rp.length c6) rp.length (ints rp) * (Row 3 1 (.slice A7 bf.length c7) bf.length (ints bf) * (S)))))))))))))))
  case first =>
    refine wp_region_W 15 17 (by kernel_rfl) (by kernel_rfl) (fun w' => w'.cell? ⟨w.heap.size, 3, none⟩ = some (.slice (some ⟨g4, 0, none⟩) us.length c4y) ∧ w'.cell? ⟨(w.heap.size + 1 + 1 + 1), 1, none⟩ = some (.int .i64 (u : Int)) ∧ w'.cell? ⟨(w.heap.size + 1), 1, none⟩ = some (.int .i64 ef) ∧ w'.cell? ⟨g4, u, none⟩ = some (.slice Ay yl.length cy)) ⟨cb, cb, cb, cell_at _ _ _ _ _⟩ (fun hHeld => ?_)
    refine tkp 0 hHeld ?_
    refine tkl 1 hHeld ?_
    refine tkp 2 hHeld ?_
    refine tkl 3 hHeld ?_
    refine tkp 4 hHeld ?_
    refine tkl 5 hHeld ?_
    refine tkp 6 hHeld ?_
    refine tkl 7 hHeld ?_
    refine tkp 8 hHeld ?_
    refine tkl 9 hHeld ?_
    refine tkp 11 hHeld ?_
    refine tkl 12 hHeld ?_
    refine wpAnyW_two false false (i := 10) (j := 13) (by kernel_rfl) rfl rfl (by kernel_rfl) (by kernel_rfl) (by rfl) (by rfl) (fun KK hKK => ?_) (fun KK hKK => ?_)
    · refine st_list rfl ?_
      go_wp2_with fail
      refine (@spec_l1OwnZ _ _ inferInstance Ay cy yl inferInstance (by omega) HNY.out).mono ?_
      rintro e5 w5 ⟨Az, cz, rfl, HP5⟩
      have HS5 := HP5.sep
      have HE5 := HP5.ext
      clear HP5
      go_wp2
      refine ⟨rfl, ?_⟩
      refine hKK.out _ _ (.inr ⟨cb, cb, cb, cell_at _ _ _ _ _⟩) (fun hHeld => ?_)
      clear hKK KK
      try simp only [Act.put, List.setIfInBounds_toArray, List.set_cons_zero, List.set_cons_succ]
      refine wpAnyW_one false (i := 13) (by kernel_rfl) rfl (by kernel_rfl) (by rfl) (fun KK hKK => ?_)
      refine st_list rfl ?_
      go_wp2
      refine ⟨rfl, ?_⟩
      refine hKK.out _ _ (.inr ⟨cb, cb, cb, cell_at _ _ _ _ _⟩) (fun hHeld => ?_)
      clear hKK KK
      try simp only [Act.put, List.setIfInBounds_toArray, List.set_cons_zero, List.set_cons_succ]
      refine wpAnyW_one false (i := 14) (by kernel_rfl) rfl (by kernel_rfl) (by rfl) (fun KK hKK => ?_)
      refine st_list rfl (ev_append (v := .slice Az yl.length cz) rfl _ _ 26 rfl ?_ 8 _ Try.underlying26 info_int rfl (by decide) (by decide) (w5.heap.size) 1 1 ?_ rfl (by simp [Value.oneCell']) (by omega) ?_)
      rfl
      rfl
      intro v6 w6 HS6 HE6
      replace HS6 := Row.as HS6 rfl HZ2.out
      obtain ⟨A9, c9, rfl, _, _⟩ := Row.form HS6
      refine ⟨rfl, ?_⟩
      refine hKK.out _ _ (.inr ⟨cb, cb, cb, cell_at _ _ _ _ _⟩) (fun hHeld => ?_)
      clear hKK KK
      try simp only [Act.put, List.setIfInBounds_toArray, List.set_cons_zero, List.set_cons_succ]
      refine wpAnyW_done (by kernel_rfl) ?_
      go_wp2
      go_meet
      exact ⟨rfl, inferInstance, A9, c9, Ent.sep (S := _) inferInstance inferInstance⟩
    · refine st_list rfl ?_
      go_wp2
      refine ⟨rfl, ?_⟩
      refine hKK.out _ _ (.inr ⟨cb, cb, cb, cell_at _ _ _ _ _⟩) (fun hHeld => ?_)
      clear hKK KK
      try simp only [Act.put, List.setIfInBounds_toArray, List.set_cons_zero, List.set_cons_succ]
      refine wpAnyW_one false (i := 10) (by kernel_rfl) rfl (by kernel_rfl) (by rfl) (fun KK hKK => ?_)
      refine st_list rfl ?_
      go_wp2_with fail
      refine (@spec_l1OwnZ _ _ inferInstance Ay cy yl inferInstance (by omega) HNY.out).mono ?_
      rintro e5 w5 ⟨Az, cz, rfl, HP5⟩
      have HS5 := HP5.sep
      have HE5 := HP5.ext
      clear HP5
      go_wp2
      refine ⟨rfl, ?_⟩
      refine hKK.out _ _ (.inr ⟨cb, cb, cb, cell_at _ _ _ _ _⟩) (fun hHeld => ?_)
      clear hKK KK
      try simp only [Act.put, List.setIfInBounds_toArray, List.set_cons_zero, List.set_cons_succ]
      refine wpAnyW_one false (i := 14) (by kernel_rfl) rfl (by kernel_rfl) (by rfl) (fun KK hKK => ?_)
      refine st_list rfl (ev_append (v := .slice Az yl.length cz) rfl _ _ 26 rfl ?_ 8 _ Try.underlying26 info_int rfl (by decide) (by decide) (w3.heap.size) 1 1 ?_ rfl (by simp [Value.oneCell']) (by omega) ?_)
      rfl
      rfl
      intro v6 w6 HS6 HE6
      replace HS6 := Row.as HS6 rfl HZ2.out
      obtain ⟨A9, c9, rfl, _, _⟩ := Row.form HS6
      refine ⟨rfl, ?_⟩
      refine hKK.out _ _ (.inr ⟨cb, cb, cb, cell_at _ _ _ _ _⟩) (fun hHeld => ?_)
      clear hKK KK
      try simp only [Act.put, List.setIfInBounds_toArray, List.set_cons_zero, List.set_cons_succ]
      refine wpAnyW_done (by kernel_rfl) ?_
      go_wp2
      go_meet
      exact ⟨rfl, inferInstance, A9, c9, Ent.sep (S := _) inferInstance inferInstance⟩
  case rest =>
    obtain ⟨rfl, HE7, A9, c9, HS7⟩ := hcut
    have HS8 : SepI _ (pts (w.heap.size + 1 + 1 + 1) (.cells #[.bool tb, .int .i64 (u : Int)] 147 (0, 0)) * (pts (w.heap.size + 1 + 1) (.cells #[.slice none 0 0, .slice none 0 0, .slice none 0 0, .slice none 0 0, .slice none 0 0, .slice none 0 0, .slice none 0 0] 103 (0, 0)) * (pts (w.heap.size + 1) (.cells #[.int .i64 ek, .int .i64 ef, .int .i64 ev] 75 (0, 0)) * (pts w.heap.size (.cells (#[Value.slice (some ⟨g0, 0, none⟩) (0) c1, .slice A2 pn.length c2, .slice A3 dp.length c3, .slice A4 us.length c4, .slice A5 rv.length c5, .slice A6 rp.length c6, .slice A7 bf.length c7].setIfInBounds 3 (.slice (some ⟨g4, 0, none⟩) us.length c4y)) 103 (0, 0)) * (Row 147 2 (.slice (some ⟨g0, 0, none⟩) (0 + 1) c1) (0 + 1) (cCl cs) * (Row 105 3 (.slice A2 pn.length c2) pn.length (c3s pn) * (Row 3 1 (.slice A3 dp.length c3) dp.length (ints dp) * (Row 26 1 (.slice (some ⟨g4, 0, none⟩) us.length c4y) us.length ((us.set u ⟨yl ++ [ef], .slice A9 (yl.length + 1) c9⟩).map (·.v)) * (stars ((us.set u ⟨yl ++ [ef], .slice A9 (yl.length + 1) c9⟩).map uH) * (Row 112 2 (.slice A5 rv.length c5) rv.length (cPr rv) * (Row 3 1 (.slice A6 rp.length c6) rp.length (ints rp) * (Row 3 1 (.slice A7 bf.length c7) bf.length (ints bf) * (S))))))))))))) := SepI.cast HS7 (by rw [HSN.out, HUV.out]; unfold uH; simp only [List.length_append, List.length_cons, List.length_nil, star_assoc])
    obtain ⟨us', hus'⟩ : ∃ us' : List Uv, us' = us.set u ⟨yl ++ [ef], .slice A9 (yl.length + 1) c9⟩ := ⟨_, rfl⟩
    have HUL : Hd (us'.length = us.length) := ⟨by rw [hus', HULN.out]⟩
    have HUSL : Hd (us'.map (·.l) = un.set u (yl ++ [ef])) := ⟨by rw [hus', HUS.out]⟩
    rw [← hus'] at HS8
    clear hus' HS7 HUV HSN HST HUS HULN
    go_wp2_with fail
    refine (@spec_l4Fate _ _ A2 c2 _ _ _ _ _ _ _ _ _ _ _ _ _ _ _ _ _ _ pn pn.length u 3 rfl hup (by omega) (SepI.pick (S := _) inferInstance inferInstance)).mono ?_
    rintro e2 w1 ⟨A2x, c2x, rfl, HP⟩
    have HS1 := HP.sep
    have HE1 := HP.ext
    clear HP
    go_wp2_with (refine ev_store rfl 103 _ _ rfl (w.heap.size + 1 + 1) #[Value.slice (some ⟨g0, 0, none⟩) 0 c1, .slice A2x pn.length c2x, .slice A3 dp.length c3, .slice (some ⟨g4, 0, none⟩) us.length c4y, .slice A5 rv.length c5, .slice A6 rp.length c6, .slice A7 bf.length c7] rfl rfl info_r4 (by rfl) (by simp [Value.oneCell']) ?_; intro w9 HS9 HE9)
    refine bodyPost_ret (v := .agg #[.slice (some ⟨g0, 0, none⟩) 0 c1, .slice A2x pn.length c2x, .slice A3 dp.length c3, .slice (some ⟨g4, 0, none⟩) us.length c4y, .slice A5 rv.length c5, .slice A6 rp.length c6, .slice A7 bf.length c7]) (by simp [results, Try.results111, go_sem]) rfl ?_
    have HX := Row.cutG (i := 0) (Ent.sep (S := _) (T := Row 147 2 (.slice (some ⟨g0, 0, none⟩) (0 + 1) c1) (0 + 1) (cCl cs) * (Row 105 3 (.slice A2x pn.length c2x) pn.length (c3s (fate4 pn u 3)) * (Row 3 1 (.slice A3 dp.length c3) dp.length (ints dp) * (Row 26 1 (.slice (some ⟨g4, 0, none⟩) us.length c4y) us.length (us'.map (·.v)) * (stars (us'.map uH) * (Row 112 2 (.slice A5 rv.length c5) rv.length (cPr rv) * (Row 3 1 (.slice A6 rp.length c6) rp.length (ints rp) * (Row 3 1 (.slice A7 bf.length c7) bf.length (ints bf) * S)))))))) inferInstance HS9) (by omega)
    refine ⟨⟨some ⟨g0, 0, none⟩, c1, A2x, c2x, A3, c3, some ⟨g4, 0, none⟩, c4y, A5, c5, A6, c6, A7, c7, us'⟩, HUSL.out, ?_, Post.mk' (SepI.cast HX ?_) inferInstance⟩
    · unfold r4V; simp only [List.length_nil]; rw [fate4_len, HUL.out]
    · unfold R4H
      rw [HTK.out, fate4_len, HUL.out]
      rfl
end Go.Proofs.Ytobikkdnalnllaa
