/- The reading of a trace: l4Panic. Conditions: lengths within bounds. -/
import Derived.Test.YtobikkdnalnllaaZh
import Derived.Test.YtobikkdnalnllaaZb
namespace Go.Proofs.Ytobikkdnalnllaa
open Go.RowKit SL
attribute [local go_sem] cell_blk frozen_blk lt_blk cell_at frozen_row lt_row
set_option linter.unusedVariables false
set_option linter.unusedSimpArgs false
set_option maxRecDepth 100000 in
set_option maxHeartbeats 8000000 in
theorem spec_l4Panic (S : HP) (w : World) (x : R4V) (r : R4) (e : Ev) (i : Nat) (hi : i ≤ 1000) (B : B4 i r) (hu : x.us.map (·.l) = r.unwound) (t : Bool × Int) (rest : List (Bool × Int)) (hc : r.calls = t :: rest) [H : SepI w (R4H x r S)] :
    Calls Try.prog 109 #[r4V x r, .agg #[.int .i64 e.k, .int .i64 e.f, .int .i64 e.v]] w (R4P S ⟨(t.1, (r.panics.length : Nat)) :: rest, r.panics ++ [(e.f, e.v, 0)], r.depths ++ [((r.calls.length : Nat) : Int)], r.unwound ++ [[]], r.recovers, r.replaced ++ [-1], r.before ++ [-1]⟩ w) := by
  obtain ⟨A1, c1, A2, c2, A3, c3, A4, c4, A5, c5, A6, c6, A7, c7, us⟩ := x
  obtain ⟨ca, pn, dp, un, rv, rp, bf⟩ := r
  simp only at hu hc B
  obtain ⟨hb1, hb2, hb3, hb4, hb5, hb6, hb7, hb8, hb9⟩ := B
  simp only at hb1 hb2 hb3 hb4 hb5 hb6 hb7 hb8 hb9
  subst hc
  have hus : us.length = un.length := by rw [← hu, List.length_map]
  obtain ⟨k, hk⟩ : ∃ k, rest.length = k := ⟨_, rfl⟩
  have hk1 : k + 1 ≤ i := by simpa [hk] using hb1
  have l2 : pn.length ≤ 1000 := by omega
  have l3 : dp.length ≤ 1000 := by omega
  have l4 : us.length ≤ 1000 := by omega
  have l5 : rv.length ≤ 1000 := by omega
  have l6 : rp.length ≤ 1000 := by omega
  have l7 : bf.length ≤ 1000 := by omega
  have HEQ : Hd (dp.length = pn.length ∧ us.length = pn.length ∧ rp.length = pn.length ∧ bf.length = pn.length) := ⟨by omega⟩
  have HK := Hd.mk hk
  have HU := Hd.mk hu
  have HB8 := Hd.mk hb8
  have HB9 := Hd.mk hb9
  obtain ⟨cs, hcs⟩ : ∃ cs, cs = (t :: rest).reverse := ⟨_, rfl⟩
  have HCS : Hd (cs = rest.reverse ++ [t]) := ⟨by rw [hcs, List.reverse_cons]⟩
  have H1 : SepI w (Row 147 2 (.slice A1 (k + 1) c1) (k + 1) (cCl cs) * (Row 105 3 (.slice A2 pn.length c2) pn.length (c3s pn) * (Row 3 1 (.slice A3 dp.length c3) dp.length (ints dp) * (Row 26 1 (.slice A4 us.length c4) us.length (us.map (·.v)) * (stars (us.map uH) * (Row 112 2 (.slice A5 rv.length c5) rv.length (cPr rv) * (Row 3 1 (.slice A6 rp.length c6) rp.length (ints rp) * (Row 3 1 (.slice A7 bf.length c7) bf.length (ints bf) * S)))))))) := SepI.cast H (by unfold R4H; simp only [List.length_cons]; rw [hk, ← hcs])
  have hval : r4V ⟨A1, c1, A2, c2, A3, c3, A4, c4, A5, c5, A6, c6, A7, c7, us⟩ ⟨t :: rest, pn, dp, un, rv, rp, bf⟩ = .agg #[.slice A1 (k + 1) c1, .slice A2 pn.length c2, .slice A3 dp.length c3, .slice A4 us.length c4, .slice A5 rv.length c5, .slice A6 rp.length c6, .slice A7 bf.length c7] := by unfold r4V; simp only [List.length_cons]; rw [hk]
  rw [hval]
  clear hval H hcs hk hu hb8 hb9 hb1 hb2 hb3 hb4 hb5 hb6 hb7 hus
  simp only [List.length_cons, HK.out]
  obtain ⟨pn1, hp⟩ : ∃ q, pn ++ [(e.f, e.v, 0)] = q := ⟨_, rfl⟩
  obtain ⟨dp1, hd⟩ : ∃ q, dp ++ [((k + 1 : Nat) : Int)] = q := ⟨_, rfl⟩
  obtain ⟨rp1, hr⟩ : ∃ q, rp ++ [(-1 : Int)] = q := ⟨_, rfl⟩
  obtain ⟨bf1, hbf⟩ : ∃ q, bf ++ [(-1 : Int)] = q := ⟨_, rfl⟩
  have HP1 : Hd (pn.length + 1 = pn1.length) := ⟨by rw [← hp]; simp⟩
  have HP2 : Hd (c3s pn ++ #[.int .i64 e.f, .int .i64 e.v, .int .i64 0].toList = c3s pn1) := ⟨by rw [← hp, c3s_snoc]⟩
  have HD1 : Hd (dp.length + 1 = dp1.length) := ⟨by rw [← hd]; simp⟩
  have HD2 : Hd (ints dp ++ #[.int .i64 ((k + 1 : Nat) : Int)].toList = ints dp1) := ⟨by rw [← hd, ints_append]; rfl⟩
  have HR1 : Hd (rp.length + 1 = rp1.length) := ⟨by rw [← hr]; simp⟩
  have HR2 : Hd (ints rp ++ #[.int .i64 (-1)].toList = ints rp1) := ⟨by rw [← hr, ints_append]; rfl⟩
  have HB1 : Hd (bf.length + 1 = bf1.length) := ⟨by rw [← hbf]; simp⟩
  have HB2 : Hd (ints bf ++ #[.int .i64 (-1)].toList = ints bf1) := ⟨by rw [← hbf, ints_append]; rfl⟩
  have hpl : pn1.length ≤ 1001 := by rw [← HP1.out]; omega
  have hwl : IntKind.i64.wrap ((pn1.length : Int) - 1) = (pn.length : Int) := by have := HP1.out; rw [IntWalk.i64_in _ (by omega)]; omega
  rw [hp, hd, hr, hbf]
  clear hp hd hr hbf
  obtain ⟨ek, ef, ev⟩ := e
  simp only at HP2
  go_enter Try.func109, Try.ntmps109
  go_wp2_with (first | (refine ev_store rfl 103 _ _ rfl (w.heap.size + 1 + 1) #[Value.slice A1x (k + 1) c1x, .slice A2x pn1.length c2x, .slice A3x dp1.length c3x, .slice A4x (us.length + 1) c4x, .slice A5 rv.length c5, .slice A6x rp1.length c6x, .slice A7x bf1.length c7x] rfl rfl info_r4 (by rfl) (by simp [Value.oneCell']) ?_; intro w9 HS9 HE9) | (at_builtin; go_must (first | (refine ev_append (v := .slice A2 pn.length c2) rfl _ _ 46 rfl rfl 24 _ Try.underlying46 info_t3 rfl (by decide) (by decide) (w.heap.size + 1 + 1 + 1) 1 1 rfl rfl (by simp [Value.oneCell']) (by omega) ?_; intro v1 w1 HS1 HE1; replace HS1 := Row.as HS1 HP1.out HP2.out; obtain ⟨A2x, c2x, rfl, _, _⟩ := Row.form HS1) | (refine ev_append (v := .slice A3 dp.length c3) rfl _ _ 26 rfl rfl 8 _ Try.underlying26 info_int rfl (by decide) (by decide) (w1.heap.size) 1 1 rfl rfl (by simp [Value.oneCell']) (by omega) ?_; intro v2 w2 HS2 HE2; replace HS2 := Row.as HS2 HD1.out HD2.out; obtain ⟨A3x, c3x, rfl, _, _⟩ := Row.form HS2) | (refine ev_append (H := Row.lit0 (size := 1) (SepI.pick (A := pts w2.heap.size (.cells #[] 3 (0, 0))) inferInstance inferInstance)) (v := .slice A4 us.length c4) rfl _ _ 101 rfl rfl 24 _ Try.underlying101 info_sl rfl (by decide) (by decide) (w2.heap.size + 1) 1 1 rfl rfl (by simp [Value.oneCell']) (by omega) ?_; intro v3 w3 HS3 HE3; replace HS3 := Row.as HS3 rfl (show _ = us.map (·.v) ++ [Value.slice (some ⟨w2.heap.size, 0, none⟩) 0 0] from rfl); obtain ⟨A4x, c4x, rfl, _, _⟩ := Row.form HS3) | (refine ev_append (v := .slice A6 rp.length c6) rfl _ _ 26 rfl rfl 8 _ Try.underlying26 info_int rfl (by decide) (by decide) (w3.heap.size) 1 1 rfl rfl (by simp [Value.oneCell']) (by omega) ?_; intro v4 w4 HS4 HE4; replace HS4 := Row.as HS4 HR1.out HR2.out; obtain ⟨A6x, c6x, rfl, _, _⟩ := Row.form HS4) | (refine ev_append (v := .slice A7 bf.length c7) rfl _ _ 26 rfl rfl 8 _ Try.underlying26 info_int rfl (by decide) (by decide) (w4.heap.size) 1 1 rfl rfl (by simp [Value.oneCell']) (by omega) ?_; intro v5 w5 HS5 HE5; replace HS5 := Row.as HS5 HB1.out HB2.out; obtain ⟨A7x, c7x, rfl, _, _⟩ := Row.form HS5))))
  refine (@spec_l4Top _ _ A1 c1 _ _ _ _ _ _ _ _ _ _ _ _ _ _ _ _ _ _ rest.reverse t _ k cs (by rw [List.length_reverse]; exact HK.out) HCS.out (by omega) (SepI.pick (S := _) inferInstance inferInstance)).mono ?_
  rintro e2 w6 ⟨A1x, c1x, rfl, HP⟩
  have HS6 := HP.sep
  have HE6 := HP.ext
  clear HP
  go_wp2_with (refine ev_store rfl 103 _ _ rfl (w.heap.size + 1 + 1) #[Value.slice A1x (k + 1) c1x, .slice A2x pn1.length c2x, .slice A3x dp1.length c3x, .slice A4x (us.length + 1) c4x, .slice A5 rv.length c5, .slice A6x rp1.length c6x, .slice A7x bf1.length c7x] rfl rfl info_r4 (by rfl) (by simp [Value.oneCell']) ?_; intro w9 HS9 HE9)
  refine bodyPost_ret (v := .agg #[.slice A1x (k + 1) c1x, .slice A2x pn1.length c2x, .slice A3x dp1.length c3x, .slice A4x (us.length + 1) c4x, .slice A5 rv.length c5, .slice A6x rp1.length c6x, .slice A7x bf1.length c7x]) (by simp [results, Try.results109, go_sem]) rfl ?_
  refine ⟨⟨A1x, c1x, A2x, c2x, A3x, c3x, A4x, c4x, A5, c5, A6x, c6x, A7x, c7x, us ++ [⟨[], .slice (some ⟨w2.heap.size, 0, none⟩) 0 0⟩]⟩, by simp [HU.out], ?_, Post.mk' (SepI.cast (Ent.sep (S := _) (T := Row 147 2 (.slice A1x (k + 1) c1x) (k + 1) (cCl (rest.reverse ++ [(t.1, ((pn.length : Nat) : Int))])) * (Row 105 3 (.slice A2x pn1.length c2x) pn1.length (c3s pn1) * (Row 3 1 (.slice A3x dp1.length c3x) dp1.length (ints dp1) * (Row 26 1 (.slice A4x (us.length + 1) c4x) (us.length + 1) (us.map (·.v) ++ [.slice (some ⟨w2.heap.size, 0, none⟩) 0 0]) * (Row 3 1 (.slice (some ⟨w2.heap.size, 0, none⟩) 0 0) 0 [] * (stars (us.map uH) * (Row 112 2 (.slice A5 rv.length c5) rv.length (cPr rv) * (Row 3 1 (.slice A6x rp1.length c6x) rp1.length (ints rp1) * (Row 3 1 (.slice A7x bf1.length c7x) bf1.length (ints bf1) * S))))))))) inferInstance inferInstance) ?_) inferInstance⟩
  · unfold r4V; simp only [List.length_cons, List.length_append, List.length_nil]; rw [HK.out]
  · unfold R4H
    simp only [List.length_cons, List.length_append, List.length_nil, List.reverse_cons, List.map_append, List.map_cons, List.map_nil, stars_snoc, star_assoc]
    rw [HK.out]
    rfl
end Go.Proofs.Ytobikkdnalnllaa
