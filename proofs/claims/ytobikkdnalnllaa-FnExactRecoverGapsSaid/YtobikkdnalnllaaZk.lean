/- The reading of a trace: l4Exit. Conditions: lengths within bounds. -/
import Derived.Test.YtobikkdnalnllaaZj
namespace Go.Proofs.Ytobikkdnalnllaa
open Go.RowKit SL
attribute [local go_sem] cell_blk frozen_blk lt_blk cell_at frozen_row lt_row
set_option linter.unusedVariables false
set_option linter.unusedSimpArgs false
theorem Row.cutG {w : World} {g n c i size : Nat} {e : TypeId} {cs : List Value} {F : HP} (H : SepI w (Row e size (.slice (some ⟨g, 0, none⟩) n c) n cs * F)) (hi : i ≤ n) : SepI w (Row e size (.slice (some ⟨g, 0, none⟩) i c) i (cs.take (i * size)) * F) := by
  rcases Row.open H with ⟨hv, _⟩ | ⟨g', cap, cur, hv, hl, h1, h2, h3, h4, H'⟩
  · cases hv
  · injection hv with hA _ hc
    injection hA with hA
    injection hA with hA
    subst hA; subst hc
    have H3 := Row.close (size := size) (n := i) H' (Nat.le_trans hi h1) h2 h3
    have e : cs.take (i * size) = cur.toList.take (i * size) := by
      rw [← h4, List.take_take, Nat.min_eq_left (Nat.mul_le_mul_right _ hi)]
    rw [e]; exact H3
set_option maxRecDepth 100000 in
set_option maxHeartbeats 8000000 in
theorem spec_l4Exit0 (S : HP) (w : World) (x : R4V) (r : R4) (i : Nat) (hi : i ≤ 1000) (B : B4 i r) (hu : x.us.map (·.l) = r.unwound) (t : Bool × Int) (hc : r.calls = [t]) [H : SepI w (R4H x r S)] :
    Calls Try.prog 112 #[r4V x r] w (R4P S { r with calls := [] } w) := by
  obtain ⟨rest, hrest⟩ : ∃ rest : List (Bool × Int), rest = [] := ⟨_, rfl⟩
  rw [← hrest] at hc
  obtain ⟨A1, c1, A2, c2, A3, c3, A4, c4, A5, c5, A6, c6, A7, c7, us⟩ := x
  obtain ⟨ca, pn, dp, un, rv, rp, bf⟩ := r
  simp only at hu hc B
  obtain ⟨hb1, hb2, hb3, hb4, hb5, hb6, hb7, hb8, hb9⟩ := B
  simp only at hb1 hb2 hb3 hb4 hb5 hb6 hb7 hb8 hb9
  subst hc
  have hus : us.length = un.length := by rw [← hu, List.length_map]
  obtain ⟨k, hk⟩ : ∃ k, rest.length = k := ⟨_, rfl⟩
  have hk1 : k + 1 ≤ i := by simpa [hk] using hb1
  have l2 : pn.length ≤ 1000 := by omega
  have l3 : dp.length ≤ 1000 := by omega
  have l4 : us.length ≤ 1000 := by omega
  have l5 : rv.length ≤ 1000 := by omega
  have l6 : rp.length ≤ 1000 := by omega
  have l7 : bf.length ≤ 1000 := by omega
  have HEQ : Hd (dp.length = pn.length ∧ us.length = pn.length ∧ rp.length = pn.length ∧ bf.length = pn.length) := ⟨by omega⟩
  have HK := Hd.mk hk
  have HU := Hd.mk hu
  have HB8 := Hd.mk hb8
  have HB9 := Hd.mk hb9
  obtain ⟨cs, hcs⟩ : ∃ cs, cs = (t :: rest).reverse := ⟨_, rfl⟩
  have HCS : Hd (cs = rest.reverse ++ [t]) := ⟨by rw [hcs, List.reverse_cons]⟩
  have H1 : SepI w (Row 147 2 (.slice A1 (k + 1) c1) (k + 1) (cCl cs) * (Row 105 3 (.slice A2 pn.length c2) pn.length (c3s pn) * (Row 3 1 (.slice A3 dp.length c3) dp.length (ints dp) * (Row 26 1 (.slice A4 us.length c4) us.length (us.map (·.v)) * (stars (us.map uH) * (Row 112 2 (.slice A5 rv.length c5) rv.length (cPr rv) * (Row 3 1 (.slice A6 rp.length c6) rp.length (ints rp) * (Row 3 1 (.slice A7 bf.length c7) bf.length (ints bf) * S)))))))) := SepI.cast H (by unfold R4H; simp only [List.length_cons]; rw [hk, ← hcs])
  have hval : r4V ⟨A1, c1, A2, c2, A3, c3, A4, c4, A5, c5, A6, c6, A7, c7, us⟩ ⟨t :: rest, pn, dp, un, rv, rp, bf⟩ = .agg #[.slice A1 (k + 1) c1, .slice A2 pn.length c2, .slice A3 dp.length c3, .slice A4 us.length c4, .slice A5 rv.length c5, .slice A6 rp.length c6, .slice A7 bf.length c7] := by unfold r4V; simp only [List.length_cons]; rw [hk]
  rw [hval]
  clear hval H hcs hk hu hb8 hb9 hb1 hb2 hb3 hb4 hb5 hb6 hb7 hus
  obtain rfl : k = 0 := by rw [← HK.out, hrest]; rfl
  have hget : cs[0]? = some t := by rw [HCS.out, ← HK.out, ← List.length_reverse]; exact last_get rest.reverse t
  have hcap : 0 + 1 ≤ c1 := by
    obtain ⟨A9, c9, h9, h9a, _⟩ := Row.form H1
    injection h9 with _ _ h9b
    omega
  have hcap2 : 0 ≤ c1 := by omega
  obtain ⟨g0, rfl⟩ := Row.addr H1 (by omega)
  have HTK : Hd ((cCl cs).take (0 * 2) = cCl rest.reverse) := ⟨by rw [HCS.out, cCl_append, List.take_left' (by rw [cCl_len, List.length_reverse, HK.out])]⟩
  have b1 : ∀ F : HP, CellAt (Row 147 2 (.slice (some ⟨g0, 0, none⟩) (0 + 1) c1) (0 + 1) (cCl cs) * F) g0 0 (.bool t.1) := fun F => Row.cellAt (cCl_get hget).1
  have b2 : ∀ F : HP, CellAt (Row 147 2 (.slice (some ⟨g0, 0, none⟩) (0 + 1) c1) (0 + 1) (cCl cs) * F) g0 1 (.int .i64 t.2) := fun F => Row.cellAt (cCl_get hget).2
  clear hget
  rw [hrest] at HTK
  go_enter Try.func112, Try.ntmps112
  go_wp2_with (refine ev_store rfl 103 _ _ rfl (w.heap.size + 1) #[Value.slice (some ⟨g0, 0, none⟩) 0 c1, .slice A2 pn.length c2, .slice A3 dp.length c3, .slice A4 us.length c4, .slice A5 rv.length c5, .slice A6 rp.length c6, .slice A7 bf.length c7] rfl rfl info_r4 (by rfl) (by simp [Value.oneCell']) ?_; intro w9 HS9 HE9)
  refine bodyPost_ret (v := .agg #[.slice (some ⟨g0, 0, none⟩) 0 c1, .slice A2 pn.length c2, .slice A3 dp.length c3, .slice A4 us.length c4, .slice A5 rv.length c5, .slice A6 rp.length c6, .slice A7 bf.length c7]) (by simp [results, Try.results112, go_sem]) rfl ?_
  have HX := Row.cutG (i := 0) (Ent.sep (S := _) (T := Row 147 2 (.slice (some ⟨g0, 0, none⟩) (0 + 1) c1) (0 + 1) (cCl cs) * (Row 105 3 (.slice A2 pn.length c2) pn.length (c3s pn) * (Row 3 1 (.slice A3 dp.length c3) dp.length (ints dp) * (Row 26 1 (.slice A4 us.length c4) us.length (us.map (·.v)) * (stars (us.map uH) * (Row 112 2 (.slice A5 rv.length c5) rv.length (cPr rv) * (Row 3 1 (.slice A6 rp.length c6) rp.length (ints rp) * (Row 3 1 (.slice A7 bf.length c7) bf.length (ints bf) * S)))))))) inferInstance HS9) (by omega)
  refine ⟨⟨some ⟨g0, 0, none⟩, c1, A2, c2, A3, c3, A4, c4, A5, c5, A6, c6, A7, c7, us⟩, HU.out, rfl, Post.mk' (SepI.cast HX ?_) inferInstance⟩
  unfold R4H
  rw [HTK.out]
  rfl
/-- The last call but one, and what is ahead of it. -/
theorem prev_get (rest : List (Bool × Int)) (p t : Bool × Int) : ((rest.reverse ++ [p]) ++ [t])[rest.length]? = some p := by
  rw [List.getElem?_append_left (by simp), ← List.length_reverse]
  exact last_get rest.reverse p
theorem top_get (rest : List (Bool × Int)) (p t : Bool × Int) : ((rest.reverse ++ [p]) ++ [t])[rest.length + 1]? = some t := by
  simp
set_option maxRecDepth 100000 in
set_option maxHeartbeats 8000000 in
theorem spec_l4ExitP (S : HP) (w : World) (x : R4V) (r : R4) (i : Nat) (hi : i ≤ 1000) (B : B4 i r) (hu : x.us.map (·.l) = r.unwound) (t p : Bool × Int) (rest : List (Bool × Int)) (hc : r.calls = t :: p :: rest) [H : SepI w (R4H x r S)] :
    Calls Try.prog 112 #[r4V x r] w (R4P S (exit4 r t (p :: rest)) w) := by
  obtain ⟨A1, c1, A2, c2, A3, c3, A4, c4, A5, c5, A6, c6, A7, c7, us⟩ := x
  obtain ⟨ca, pn, dp, un, rv, rp, bf⟩ := r
  simp only at hu hc B
  obtain ⟨hb1, hb2, hb3, hb4, hb5, hb6, hb7, hb8, hb9⟩ := B
  simp only at hb1 hb2 hb3 hb4 hb5 hb6 hb7 hb8 hb9
  subst hc
  have hus : us.length = un.length := by rw [← hu, List.length_map]
  obtain ⟨k, hk⟩ : ∃ k, (p :: rest).length = k := ⟨_, rfl⟩
  have hk1 : k + 1 ≤ i := by simpa [hk] using hb1
  have l2 : pn.length ≤ 1000 := by omega
  have l3 : dp.length ≤ 1000 := by omega
  have l4 : us.length ≤ 1000 := by omega
  have l5 : rv.length ≤ 1000 := by omega
  have l6 : rp.length ≤ 1000 := by omega
  have l7 : bf.length ≤ 1000 := by omega
  have HEQ : Hd (dp.length = pn.length ∧ us.length = pn.length ∧ rp.length = pn.length ∧ bf.length = pn.length) := ⟨by omega⟩
  have HK := Hd.mk hk
  have HU := Hd.mk hu
  have HB8 := Hd.mk hb8
  have HB9 := Hd.mk hb9
  obtain ⟨cs, hcs⟩ : ∃ cs, cs = (t :: p :: rest).reverse := ⟨_, rfl⟩
  have HCS : Hd (cs = (rest.reverse ++ [p]) ++ [t]) := ⟨by rw [hcs, List.reverse_cons, List.reverse_cons]⟩
  have H1 : SepI w (Row 147 2 (.slice A1 (k + 1) c1) (k + 1) (cCl cs) * (Row 105 3 (.slice A2 pn.length c2) pn.length (c3s pn) * (Row 3 1 (.slice A3 dp.length c3) dp.length (ints dp) * (Row 26 1 (.slice A4 us.length c4) us.length (us.map (·.v)) * (stars (us.map uH) * (Row 112 2 (.slice A5 rv.length c5) rv.length (cPr rv) * (Row 3 1 (.slice A6 rp.length c6) rp.length (ints rp) * (Row 3 1 (.slice A7 bf.length c7) bf.length (ints bf) * S)))))))) := SepI.cast H (by unfold R4H; simp only [List.length_cons] at hk ⊢; rw [hk, ← hcs])
  have hval : r4V ⟨A1, c1, A2, c2, A3, c3, A4, c4, A5, c5, A6, c6, A7, c7, us⟩ ⟨t :: p :: rest, pn, dp, un, rv, rp, bf⟩ = .agg #[.slice A1 (k + 1) c1, .slice A2 pn.length c2, .slice A3 dp.length c3, .slice A4 us.length c4, .slice A5 rv.length c5, .slice A6 rp.length c6, .slice A7 bf.length c7] := by unfold r4V; simp only [List.length_cons] at hk ⊢; rw [hk]
  rw [hval]
  clear hval H hcs hk hu hb8 hb9 hb1 hb2 hb3 hb4 hb5 hb6 hb7 hus
  obtain ⟨j, rfl⟩ : ∃ j, k = j + 1 := ⟨rest.length, by rw [← HK.out]; rfl⟩
  have HJ : Hd (rest.length = j) := ⟨by have h2 : rest.length + 1 = j + 1 := HK.out; omega⟩
  have hget : cs[j + 1]? = some t := by rw [HCS.out, ← HJ.out]; exact top_get rest p t
  have hget2 : cs[j]? = some p := by rw [HCS.out, ← HJ.out]; exact prev_get rest p t
  have hcap : j + 1 + 1 ≤ c1 := by
    obtain ⟨A9, c9, h9, h9a, _⟩ := Row.form H1
    injection h9 with _ _ h9b
    omega
  have hcap2 : j + 1 ≤ c1 := by omega
  obtain ⟨g0, rfl⟩ := Row.addr H1 (by omega)
  have HTK : Hd ((cCl cs).take ((j + 1) * 2) = cCl (rest.reverse ++ [p])) := ⟨by rw [HCS.out, cCl_append, List.take_left' (by rw [cCl_len, List.length_append, List.length_reverse, HJ.out]; rfl)]⟩
  have b1 : ∀ F : HP, CellAt (Row 147 2 (.slice (some ⟨g0, 0, none⟩) (j + 1 + 1) c1) (j + 1 + 1) (cCl cs) * F) g0 ((j + 1) * 2) (.bool t.1) := fun F => Row.cellAt (cCl_get hget).1
  have b2 : ∀ F : HP, CellAt (Row 147 2 (.slice (some ⟨g0, 0, none⟩) (j + 1 + 1) c1) (j + 1 + 1) (cCl cs) * F) g0 ((j + 1) * 2 + 1) (.int .i64 t.2) := fun F => Row.cellAt (cCl_get hget).2
  have b3 : ∀ F : HP, CellAt (Row 147 2 (.slice (some ⟨g0, 0, none⟩) (j + 1 + 1) c1) (j + 1 + 1) (cCl cs) * F) g0 (j * 2 + 1) (.int .i64 p.2) := fun F => Row.cellAt (cCl_get hget2).2
  have hpb := HB9.out p (by simp)
  clear hget hget2
  obtain ⟨tb, tn⟩ := t
  obtain ⟨pb, po⟩ := p
  simp only at b1 b2 b3 hpb
  cases tb
  · show Calls _ _ _ _ (R4P S ⟨(pb, -1) :: rest, pn, dp, un, rv, rp, bf⟩ w)
    go_enter Try.func112, Try.ntmps112
    go_wp2_with fail
    refine (@spec_l4Top _ _ (some ⟨g0, 0, none⟩) c1 _ _ _ _ _ _ _ _ _ _ _ _ _ _ _ _ _ _ rest.reverse (pb, po) (-1) j (rest.reverse ++ [(pb, po)]) (by rw [List.length_reverse]; exact HJ.out) rfl (by omega) (SepI.cast (Row.cutG (i := j + 1) (SepI.pick (A := Row 147 2 (.slice (some ⟨g0, 0, none⟩) (j + 1 + 1) c1) (j + 1 + 1) (cCl cs)) inferInstance inferInstance) (by omega)) (by rw [HTK.out]))).mono ?_
    rintro e3 w6 ⟨A1x, c1x, rfl, HP⟩
    have HS6 := HP.sep
    have HE6 := HP.ext
    clear HP
    go_wp2_with (refine ev_store rfl 103 _ _ rfl (w.heap.size + 1) #[Value.slice A1x (j + 1) c1x, .slice A2 pn.length c2, .slice A3 dp.length c3, .slice A4 us.length c4, .slice A5 rv.length c5, .slice A6 rp.length c6, .slice A7 bf.length c7] rfl rfl info_r4 (by rfl) (by simp [Value.oneCell']) ?_; intro w9 HS9 HE9)
    refine bodyPost_ret (v := .agg #[.slice A1x (j + 1) c1x, .slice A2 pn.length c2, .slice A3 dp.length c3, .slice A4 us.length c4, .slice A5 rv.length c5, .slice A6 rp.length c6, .slice A7 bf.length c7]) (by simp [results, Try.results112, go_sem]) rfl ?_
    refine ⟨⟨A1x, c1x, A2, c2, A3, c3, A4, c4, A5, c5, A6, c6, A7, c7, us⟩, HU.out, ?_, Post.mk' (SepI.cast (Ent.sep (S := _) (T := Row 147 2 (.slice A1x (j + 1) c1x) (j + 1) (cCl (rest.reverse ++ [(pb, -1)])) * (Row 105 3 (.slice A2 pn.length c2) pn.length (c3s pn) * (Row 3 1 (.slice A3 dp.length c3) dp.length (ints dp) * (Row 26 1 (.slice A4 us.length c4) us.length (us.map (·.v)) * (stars (us.map uH) * (Row 112 2 (.slice A5 rv.length c5) rv.length (cPr rv) * (Row 3 1 (.slice A6 rp.length c6) rp.length (ints rp) * (Row 3 1 (.slice A7 bf.length c7) bf.length (ints bf) * S)))))))) inferInstance inferInstance) ?_) inferInstance⟩
    · unfold r4V; simp only [List.length_cons]; rw [HJ.out]
    · unfold R4H
      simp only [List.length_cons, List.reverse_cons]
      rw [HJ.out]
  · by_cases hp : 0 ≤ po
    · obtain ⟨q, rfl⟩ : ∃ q : Nat, po = (q : Int) := ⟨po.toNat, by omega⟩
      have hql : q < pn.length := by omega
      have e4 : exit4 ⟨(true, tn) :: (pb, (q : Int)) :: rest, pn, dp, un, rv, rp, bf⟩ (true, tn) ((pb, (q : Int)) :: rest) = ⟨(pb, -1) :: rest, fate4 pn q 4, dp, un, rv, rp, bf⟩ := by
        unfold exit4
        simp
      rw [e4]
      clear e4 hpb
      go_enter Try.func112, Try.ntmps112
      go_wp2_with fail
      refine (@spec_l4Fate _ _ A2 c2 _ _ _ _ _ _ _ _ _ _ _ _ _ _ _ _ _ _ pn pn.length q 4 rfl hql (by omega) (SepI.pick (S := _) inferInstance inferInstance)).mono ?_
      rintro e2 w1 ⟨A2x, c2x, rfl, HP⟩
      have HS1 := HP.sep
      have HE1 := HP.ext
      clear HP
      go_wp2_with (refine ev_store rfl 103 _ _ rfl (w.heap.size) #[Value.slice (some ⟨g0, 0, none⟩) (j + 1) c1, .slice A2x pn.length c2x, .slice A3 dp.length c3, .slice A4 us.length c4, .slice A5 rv.length c5, .slice A6 rp.length c6, .slice A7 bf.length c7] rfl rfl info_r4 (by rfl) (by simp [Value.oneCell']) ?_; intro w2 HS2 HE2)
      refine (@spec_l4Top _ _ (some ⟨g0, 0, none⟩) c1 _ _ _ _ _ _ _ _ _ _ _ _ _ _ _ _ _ _ rest.reverse (pb, (q : Int)) (-1) j (rest.reverse ++ [(pb, (q : Int))]) (by rw [List.length_reverse]; exact HJ.out) rfl (by omega) (SepI.cast (Row.cutG (i := j + 1) (SepI.pick (A := Row 147 2 (.slice (some ⟨g0, 0, none⟩) (j + 1 + 1) c1) (j + 1 + 1) (cCl cs)) inferInstance inferInstance) (by omega)) (by rw [HTK.out]))).mono ?_
      rintro e3 w6 ⟨A1x, c1x, rfl, HP⟩
      have HS6 := HP.sep
      have HE6 := HP.ext
      clear HP
      go_wp2_with (refine ev_store rfl 103 _ _ rfl (w.heap.size + 1) #[Value.slice A1x (j + 1) c1x, .slice A2x pn.length c2x, .slice A3 dp.length c3, .slice A4 us.length c4, .slice A5 rv.length c5, .slice A6 rp.length c6, .slice A7 bf.length c7] rfl rfl info_r4 (by rfl) (by simp [Value.oneCell']) ?_; intro w9 HS9 HE9)
      refine bodyPost_ret (v := .agg #[.slice A1x (j + 1) c1x, .slice A2x pn.length c2x, .slice A3 dp.length c3, .slice A4 us.length c4, .slice A5 rv.length c5, .slice A6 rp.length c6, .slice A7 bf.length c7]) (by simp [results, Try.results112, go_sem]) rfl ?_
      refine ⟨⟨A1x, c1x, A2x, c2x, A3, c3, A4, c4, A5, c5, A6, c6, A7, c7, us⟩, HU.out, ?_, Post.mk' (SepI.cast (Ent.sep (S := _) (T := Row 147 2 (.slice A1x (j + 1) c1x) (j + 1) (cCl (rest.reverse ++ [(pb, -1)])) * (Row 105 3 (.slice A2x pn.length c2x) pn.length (c3s (fate4 pn q 4)) * (Row 3 1 (.slice A3 dp.length c3) dp.length (ints dp) * (Row 26 1 (.slice A4 us.length c4) us.length (us.map (·.v)) * (stars (us.map uH) * (Row 112 2 (.slice A5 rv.length c5) rv.length (cPr rv) * (Row 3 1 (.slice A6 rp.length c6) rp.length (ints rp) * (Row 3 1 (.slice A7 bf.length c7) bf.length (ints bf) * S)))))))) inferInstance inferInstance) ?_) inferInstance⟩
      · unfold r4V; simp only [List.length_cons]; rw [HJ.out, fate4_len]
      · unfold R4H
        simp only [List.length_cons, List.reverse_cons]
        rw [HJ.out, fate4_len]
    · have hpn : po < 0 := by omega
      have e4 : exit4 ⟨(true, tn) :: (pb, po) :: rest, pn, dp, un, rv, rp, bf⟩ (true, tn) ((pb, po) :: rest) = ⟨(pb, -1) :: rest, pn, dp, un, rv, rp, bf⟩ := by
        unfold exit4
        simp [hp]
      rw [e4]
      clear e4 hp
      go_enter Try.func112, Try.ntmps112
      go_wp2_with fail
      refine (@spec_l4Top _ _ (some ⟨g0, 0, none⟩) c1 _ _ _ _ _ _ _ _ _ _ _ _ _ _ _ _ _ _ rest.reverse (pb, po) (-1) j (rest.reverse ++ [(pb, po)]) (by rw [List.length_reverse]; exact HJ.out) rfl (by omega) (SepI.cast (Row.cutG (i := j + 1) (SepI.pick (A := Row 147 2 (.slice (some ⟨g0, 0, none⟩) (j + 1 + 1) c1) (j + 1 + 1) (cCl cs)) inferInstance inferInstance) (by omega)) (by rw [HTK.out]))).mono ?_
      rintro e3 w6 ⟨A1x, c1x, rfl, HP⟩
      have HS6 := HP.sep
      have HE6 := HP.ext
      clear HP
      go_wp2_with (refine ev_store rfl 103 _ _ rfl (w.heap.size + 1) #[Value.slice A1x (j + 1) c1x, .slice A2 pn.length c2, .slice A3 dp.length c3, .slice A4 us.length c4, .slice A5 rv.length c5, .slice A6 rp.length c6, .slice A7 bf.length c7] rfl rfl info_r4 (by rfl) (by simp [Value.oneCell']) ?_; intro w9 HS9 HE9)
      refine bodyPost_ret (v := .agg #[.slice A1x (j + 1) c1x, .slice A2 pn.length c2, .slice A3 dp.length c3, .slice A4 us.length c4, .slice A5 rv.length c5, .slice A6 rp.length c6, .slice A7 bf.length c7]) (by simp [results, Try.results112, go_sem]) rfl ?_
      refine ⟨⟨A1x, c1x, A2, c2, A3, c3, A4, c4, A5, c5, A6, c6, A7, c7, us⟩, HU.out, ?_, Post.mk' (SepI.cast (Ent.sep (S := _) (T := Row 147 2 (.slice A1x (j + 1) c1x) (j + 1) (cCl (rest.reverse ++ [(pb, -1)])) * (Row 105 3 (.slice A2 pn.length c2) pn.length (c3s pn) * (Row 3 1 (.slice A3 dp.length c3) dp.length (ints dp) * (Row 26 1 (.slice A4 us.length c4) us.length (us.map (·.v)) * (stars (us.map uH) * (Row 112 2 (.slice A5 rv.length c5) rv.length (cPr rv) * (Row 3 1 (.slice A6 rp.length c6) rp.length (ints rp) * (Row 3 1 (.slice A7 bf.length c7) bf.length (ints bf) * S)))))))) inferInstance inferInstance) ?_) inferInstance⟩
      · unfold r4V; simp only [List.length_cons]; rw [HJ.out]
      · unfold R4H
        simp only [List.length_cons, List.reverse_cons]
        rw [HJ.out]
end Go.Proofs.Ytobikkdnalnllaa
