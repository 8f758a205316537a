/- The reading of a trace: l4Recover. Conditions: lengths within bounds. -/
import Derived.Test.YtobikkdnalnllaaZi
namespace Go.Proofs.Ytobikkdnalnllaa
open Go.RowKit SL
attribute [local go_sem] cell_blk frozen_blk lt_blk cell_at frozen_row lt_row
set_option linter.unusedVariables false
set_option linter.unusedSimpArgs false
set_option maxRecDepth 100000 in
set_option maxHeartbeats 8000000 in
theorem spec_l4Recover (S : HP) (w : World) (x : R4V) (r : R4) (e : Ev) (i : Nat) (hi : i ≤ 1000) (B : B4 i r) (hu : x.us.map (·.l) = r.unwound) (t p : Bool × Int) (rest : List (Bool × Int)) (hc : r.calls = t :: p :: rest) (hok : okN r p.2 = true) [H : SepI w (R4H x r S)] :
    Calls Try.prog 110 #[r4V x r, .agg #[.int .i64 e.k, .int .i64 e.f, .int .i64 e.v]] w (R4P S { r with panics := fate4 r.panics p.2.toNat 1, recovers := r.recovers ++ [(p.2, e.f)], calls := t :: (p.1, -1) :: rest } w) := by
  obtain ⟨A1, c1, A2, c2, A3, c3, A4, c4, A5, c5, A6, c6, A7, c7, us⟩ := x
  obtain ⟨ca, pn, dp, un, rv, rp, bf⟩ := r
  simp only at hu hc B
  have hok2 := okN_of hok
  simp only at hok2
  clear hok
  obtain ⟨hb1, hb2, hb3, hb4, hb5, hb6, hb7, hb8, hb9⟩ := B
  simp only at hb1 hb2 hb3 hb4 hb5 hb6 hb7 hb8 hb9
  subst hc
  have hus : us.length = un.length := by rw [← hu, List.length_map]
  obtain ⟨k, hk⟩ : ∃ k, (p :: rest).length = k := ⟨_, rfl⟩
  have hk1 : k + 1 ≤ i := by simpa [hk] using hb1
  have l2 : pn.length ≤ 1000 := by omega
  have l3 : dp.length ≤ 1000 := by omega
  have l4 : us.length ≤ 1000 := by omega
  have l5 : rv.length ≤ 1000 := by omega
  have l6 : rp.length ≤ 1000 := by omega
  have l7 : bf.length ≤ 1000 := by omega
  have HEQ : Hd (dp.length = pn.length ∧ us.length = pn.length ∧ rp.length = pn.length ∧ bf.length = pn.length) := ⟨by omega⟩
  have HK := Hd.mk hk
  have HU := Hd.mk hu
  have HB8 := Hd.mk hb8
  have HB9 := Hd.mk hb9
  obtain ⟨cs, hcs⟩ : ∃ cs, cs = (t :: p :: rest).reverse := ⟨_, rfl⟩
  have HCS : Hd (cs = (rest.reverse ++ [p]) ++ [t]) := ⟨by rw [hcs, List.reverse_cons, List.reverse_cons]⟩
  have H1 : SepI w (Row 147 2 (.slice A1 (k + 1) c1) (k + 1) (cCl cs) * (Row 105 3 (.slice A2 pn.length c2) pn.length (c3s pn) * (Row 3 1 (.slice A3 dp.length c3) dp.length (ints dp) * (Row 26 1 (.slice A4 us.length c4) us.length (us.map (·.v)) * (stars (us.map uH) * (Row 112 2 (.slice A5 rv.length c5) rv.length (cPr rv) * (Row 3 1 (.slice A6 rp.length c6) rp.length (ints rp) * (Row 3 1 (.slice A7 bf.length c7) bf.length (ints bf) * S)))))))) := SepI.cast H (by unfold R4H; simp only [List.length_cons] at hk ⊢; rw [hk, ← hcs])
  have hval : r4V ⟨A1, c1, A2, c2, A3, c3, A4, c4, A5, c5, A6, c6, A7, c7, us⟩ ⟨t :: p :: rest, pn, dp, un, rv, rp, bf⟩ = .agg #[.slice A1 (k + 1) c1, .slice A2 pn.length c2, .slice A3 dp.length c3, .slice A4 us.length c4, .slice A5 rv.length c5, .slice A6 rp.length c6, .slice A7 bf.length c7] := by unfold r4V; simp only [List.length_cons] at hk ⊢; rw [hk]
  rw [hval]
  clear hval H hcs hk hu hb8 hb9 hb1 hb2 hb3 hb4 hb5 hb6 hb7 hus
  obtain ⟨j, rfl⟩ : ∃ j, k = j + 1 := ⟨rest.length, by rw [← HK.out]; rfl⟩
  obtain ⟨pb, po⟩ := p
  simp only at hok2
  obtain ⟨q, rfl⟩ : ∃ q : Nat, po = (q : Int) := ⟨po.toNat, by omega⟩
  have hql : q < pn.length := by omega
  clear hok2
  show Calls _ _ _ _ (R4P S ⟨t :: (pb, -1) :: rest, fate4 pn q 1, dp, un, rv ++ [((q : Int), e.f)], rp, bf⟩ w)
  obtain ⟨rv1, hrv⟩ : ∃ z, rv ++ [((q : Int), e.f)] = z := ⟨_, rfl⟩
  have HV1 : Hd (rv.length + 1 = rv1.length) := ⟨by rw [← hrv]; simp⟩
  have HV2 : Hd (cPr rv ++ #[.int .i64 (q : Int), .int .i64 e.f].toList = cPr rv1) := ⟨by rw [← hrv, cPr_snoc]⟩
  rw [hrv]
  clear hrv
  have hget : cs[j]? = some (pb, (q : Int)) := by
    have h1 : rest.length = j := by have h2 : rest.length + 1 = j + 1 := HK.out; omega
    rw [HCS.out, List.getElem?_append_left (by simp; omega), ← h1, ← List.length_reverse]
    exact last_get rest.reverse (pb, (q : Int))
  have HJ : Hd (rest.length = j) := ⟨by have h2 : rest.length + 1 = j + 1 := HK.out; omega⟩
  have HSET : Hd ((cCl cs).set (j * 2 + 1) (.int .i64 (-1)) = cCl ((t :: (pb, -1) :: rest).reverse)) := ⟨by
    rw [cCl_set hget, HCS.out, List.set_append_left _ _ (by simp; have := HJ.out; omega), ← HJ.out, ← List.length_reverse, last_set]
    simp⟩
  have d0 : ∀ (g c' : Nat) (F : HP), CellAt (Row 147 2 (.slice (some ⟨g, 0, none⟩) (j + 1 + 1) c') (j + 1 + 1) (cCl cs) * F) g (j * 2 + 1) (.int .i64 (q : Int)) := fun g c' F => Row.cellAt (cCl_get hget).2
  have HD := Hd.mk d0
  have hn := Row.none_nil H1
  have HN := Hd.mk hn
  have HCL : Hd ((cCl cs).length = (j + 1 + 1) * 2) := ⟨by rw [cCl_len, HCS.out]; simp; have := HJ.out; omega⟩
  have hwl : IntKind.i64.wrap ((j : Int) + 1 + 1 - 2) = (j : Int) := by rw [IntWalk.i64_in _ (by omega)]; omega
  have hwl2 : IntKind.i64.wrap (((j + 1 + 1 : Nat) : Int) - 2) = (j : Int) := by rw [IntWalk.i64_in _ (by omega)]; omega
  obtain ⟨g0, rfl⟩ := Row.addr H1 (by omega)
  have d1 := d0 g0 c1
  clear d0 hn hget
  obtain ⟨ek, ef, ev⟩ := e
  simp only at HV2
  go_enter Try.func110, Try.ntmps110
  go_wp2_with fail
  refine (@spec_l4Fate _ _ A2 c2 _ _ _ _ _ _ _ _ _ _ _ _ _ _ _ _ _ _ pn pn.length q 1 rfl hql (by omega) (SepI.pick (S := _) inferInstance inferInstance)).mono ?_
  rintro e2 w1 ⟨A2x, c2x, rfl, HP⟩
  have HS1 := HP.sep
  have HE1 := HP.ext
  clear HP
  go_wp2_with (first | (refine ev_store rfl 103 _ _ rfl (w.heap.size) #[Value.slice (some ⟨g0, 0, none⟩) (j + 1 + 1) c1, .slice A2x pn.length c2x, .slice A3 dp.length c3, .slice A4 us.length c4, .slice A5 rv.length c5, .slice A6 rp.length c6, .slice A7 bf.length c7] rfl rfl info_r4 (by rfl) (by simp [Value.oneCell']) ?_; intro w2 HS2 HE2) | (refine ev_store rfl 103 _ _ rfl (w.heap.size + 1 + 1) #[Value.slice (some ⟨g, 0, none⟩) (j + 1 + 1) c1x, .slice A2x pn.length c2x, .slice A3 dp.length c3, .slice A4 us.length c4, .slice A5x rv1.length c5x, .slice A6 rp.length c6, .slice A7 bf.length c7] rfl rfl info_r4 (by rfl) (by simp [Value.oneCell']) ?_; intro w9 HS9 HE9) | (at_builtin; go_must (first | (refine ev_append (v := .slice A5 rv.length c5) rfl _ _ 51 rfl rfl 16 _ Try.underlying51 info_pr rfl (by decide) (by decide) (w2.heap.size) 1 1 rfl rfl (by simp [Value.oneCell']) (by omega) ?_; intro v3 w3 HS3 HE3; replace HS3 := Row.as HS3 HV1.out HV2.out; obtain ⟨A5x, c5x, rfl, _, _⟩ := Row.form HS3) | (refine ev_appendR (H := Row.lit0 (size := 2) (SepI.pick (A := pts w3.heap.size (.cells #[] 147 (0, 0))) inferInstance inferInstance)) (v := .slice (some ⟨w3.heap.size, 0, none⟩) 0 0) rfl _ _ 100 rfl rfl 16 _ Try.underlying100 info_cl rfl (by decide) (by decide) (some ⟨g0, 0, none⟩) (j + 1 + 1) c1 rfl (news := cCl cs) HN.out HCL.out (cCl_one cs) (by omega) ?_; rw [Nat.zero_add, List.nil_append]; intro v4 w4 HS4 HE4; obtain ⟨A1x, c1x, rfl, _, _⟩ := Row.form HS4; obtain ⟨g, rfl⟩ := Row.addr HS4 (by omega); have dd := HD.out g c1x))))
  refine bodyPost_ret (v := .agg #[.slice (some ⟨g, 0, none⟩) (j + 1 + 1) c1x, .slice A2x pn.length c2x, .slice A3 dp.length c3, .slice A4 us.length c4, .slice A5x rv1.length c5x, .slice A6 rp.length c6, .slice A7 bf.length c7]) (by simp [results, Try.results110, go_sem]) rfl ?_
  refine ⟨⟨some ⟨g, 0, none⟩, c1x, A2x, c2x, A3, c3, A4, c4, A5x, c5x, A6, c6, A7, c7, us⟩, HU.out, ?_, Post.mk' (SepI.cast (Ent.sep (S := _) (T := Row 147 2 (.slice (some ⟨g, 0, none⟩) (j + 1 + 1) c1x) (j + 1 + 1) ((cCl cs).set (j * 2 + 1) (.int .i64 (-1))) * (Row 105 3 (.slice A2x pn.length c2x) pn.length (c3s (fate4 pn q 1)) * (Row 3 1 (.slice A3 dp.length c3) dp.length (ints dp) * (Row 26 1 (.slice A4 us.length c4) us.length (us.map (·.v)) * (stars (us.map uH) * (Row 112 2 (.slice A5x rv1.length c5x) rv1.length (cPr rv1) * (Row 3 1 (.slice A6 rp.length c6) rp.length (ints rp) * (Row 3 1 (.slice A7 bf.length c7) bf.length (ints bf) * S)))))))) inferInstance inferInstance) ?_) inferInstance⟩
  · unfold r4V; simp only [List.length_cons]; rw [HJ.out, fate4_len]
  · unfold R4H
    simp only [List.length_cons]
    rw [HJ.out, fate4_len, HSET.out]
end Go.Proofs.Ytobikkdnalnllaa
