/- The law FnExactPruneErrors returns true at every argument that is read. Conditions: lengths within the model's bound. -/
import Derived.Test.YtnmbmdigiaokjaaNc
import Derived.Deep.RegionWith
namespace Go.Proofs.Ytnmbmdigiaokjaa
open Go.RowKit SL
attribute [local go_sem] cell_blk frozen_blk lt_blk cell_at frozen_row lt_row
set_option linter.unusedVariables false
set_option linter.unusedSimpArgs false

theorem small_ec {rs : List EN} {ans : List EC} (h : rs.map ecOf = ans) (hs : ans.length ≤ 1048576 ∧ ∀ x ∈ ans, x.2.2.length ≤ 1048576) : rs.length ≤ 1048576 ∧ ∀ x ∈ rs, x.l.length ≤ 1048576 := by
  subst h
  rw [List.length_map] at hs
  exact ⟨hs.1, fun x hx => hs.2 (ecOf x) (List.mem_map.2 ⟨x, hx, rfl⟩)⟩
set_option maxRecDepth 100000 in
set_option maxHeartbeats 4000000 in
theorem law_PruneErrors (S : HP) (w : World) [H : SepI w S] (A : Option Addr) (c : Nat) (es : List EN) (a : Int) (a0 : ArgE S A es) :
    Calls Try.prog 8 #[.agg #[.slice A es.length c], .int .i64 a] w fun e w' => e = .returned (.bool true) ∧ Post w S w' := by
  have r := a0.rd
  have HA := Hd.mk a0
  clear a0
  go_enter Try.func8, Try.ntmps8
  go_wp2_with (go_at_call 13; refine (szErrors _ _ _ _ es HA.out.max HA.out.n).mono ?_; rintro e w' ⟨q, rfl, hq, HP'⟩; have HS2 := HP'.sep; have HE2 := HP'.ext; clear HP'; rcases hq with rfl | hq)
  · go_ret
    exact ⟨rfl, Post.mk' (Ent.sep (S := _) inferInstance inferInstance) inferInstance⟩
  · have hq0 := hq.1
    have HSM := Hd.mk (SzE.small hq)
    clear hq
    have iB : Nodes S es := ⟨HA.out.inner, HSM.out.2, HSM.out.1⟩
    go_wp2_with fail
    refine (toErrors _ _ _ _ es).mono ?_
    rintro e w1 ⟨g1, es1, rfl, hl1, HP⟩
    have HS1 := HP.sep
    have HE1 := HP.ext
    have iB1 := Nodes.own (v := .slice (some ⟨g1, 0, none⟩) es1.length es1.length) hl1 HSM.out
    have HL1 := Hd.mk hl1
    clear HP hl1
    go_wp2_with fail
    refine (spec_PruneErrors _ _ _ _ es1 (PcOk.own (v := .slice (some ⟨g1, 0, none⟩) es1.length es1.length) HS1) a).mono ?_
    rintro e w2 ⟨A1, c1, rs1, rfl, hr1, HP⟩
    rw [HL1.out] at hr1
    obtain ⟨ok, hok⟩ : ∃ ok, hasB (es.map ecOf) [a] = ok := ⟨_, rfl⟩
    obtain ⟨ans, hans⟩ : ∃ ans, pruneAns (es.map ecOf) a = ans := ⟨_, rfl⟩
    rw [hans] at hr1
    rw [HL1.out, hok]
    have HOK := Hd.mk hok
    have HANS := Hd.mk hans
    have HSA : Hd (ans.length ≤ 1048576 ∧ ∀ x ∈ ans, x.2.2.length ≤ 1048576) := ⟨by rw [← hans]; exact small_PruneErrors _ a⟩
    have HS2 := HP.sep
    have HE2 := HP.ext
    have HRS1 := Hd.mk hr1
    have hm1 := small_ec hr1 HSA.out
    have HM1 := Hd.mk hm1
    have iC1 : ∀ F, Nodes (OwnE (.slice A1 rs1.length c1) rs1 * F) rs1 := fun F => Nodes.of_OwnE F hm1.2 hm1.1
    clear HP hok hans hr1 hm1
    go_wp2_with fail
    refine (toErrors _ _ _ _ es).mono ?_
    rintro e w3 ⟨g3, es3, rfl, hl3, HP⟩
    have HS3 := HP.sep
    have HE3 := HP.ext
    have iB3 := Nodes.own (v := .slice (some ⟨g3, 0, none⟩) es3.length es3.length) hl3 HSM.out
    have HL3 := Hd.mk hl3
    have HSM3 := Hd.mk (smallE_of_map hl3 HSM.out.2)
    have HLN3 : Hd (es3.length ≤ 1048576) := ⟨by rw [lenE_of_map hl3]; exact HSM.out.1⟩
    clear HP hl3
    go_wp2_with fail
    refine (impl_PruneErrors _ _ _ _ es3 (PcOk.own (v := .slice (some ⟨g3, 0, none⟩) es3.length es3.length) HS3) a).mono ?_
    rintro e w4 ⟨A2, c2, rs2, rfl, hr2, HP⟩
    rw [HL3.out, HANS.out] at hr2
    rw [HL3.out, HOK.out]
    have HS4 := HP.sep
    have HE4 := HP.ext
    have HRS2 := Hd.mk hr2
    have hm2 := small_ec hr2 HSA.out
    have HM2 := Hd.mk hm2
    have iC2 : ∀ F, Nodes (OwnE (.slice A2 rs2.length c2) rs2 * F) rs2 := fun F => Nodes.of_OwnE F hm2.2 hm2.1
    clear HP hr2 hm2
    go_upto_region 10 with (first | (go_at_call 17; refine (eqErrors _ _ _ _ _ _ rs2 rs1).mono ?_; rintro e w5 ⟨rfl, HP⟩; rw [decide_eq_true (HRS2.out.trans HRS1.out.symm)]; have HS5 := HP.sep; have HE5 := HP.ext; clear HP))
    go_cut [49] (fun vc wx => vc = .bool false ∧ ExtI w wx ∧ SepI wx (pts w4.heap.size (.cells #[.slice A2 rs2.length c2] 30 (0, 0)) * (OwnE (.slice A2 rs2.length c2) rs2 * (pts w2.heap.size (.cells #[.slice A1 rs1.length c1] 30 (0, 0)) * (OwnE (.slice A1 rs1.length c1) rs1 * (pts w3.heap.size (.cells #[.slice (some ⟨g3, 0, none⟩) es3.length es3.length] 30 (0, 0)) * (OwnE (.slice (some ⟨g3, 0, none⟩) es3.length es3.length) es3 * (pts w.heap.size (.cells #[.slice A es.length c] 24 (0, 0)) * S))))))))
    case first =>
      go_region_with (first | (go_at_call 15; refine (toErrors _ _ _ _ es).mono ?_; rintro e w6 ⟨g6, es6, rfl, hl6, HP⟩; have HS6 := HP.sep; have HE6 := HP.ext; have iB6 := Nodes.own (v := .slice (some ⟨g6, 0, none⟩) es6.length es6.length) hl6 HSM.out; have HL6 := Hd.mk hl6; clear HP hl6) | (go_at_call 17; refine (eqErrors _ _ _ _ _ _ es3 _).mono ?_; rintro e w7 ⟨rfl, HP⟩; have HS7 := HP.sep; have HE7 := HP.ext; clear HP; rw [decide_eq_true (HL3.out.trans HL6.out.symm)]))
      all_goals
        go_wp2
        go_meet
        exact ⟨rfl, inferInstance, Ent.sep (S := _) inferInstance inferInstance⟩
    case rest =>
      obtain ⟨rfl, HE8, HS8⟩ := hcut
      go_wp2_with fail
      refine (@markErrors _ _ _ _ _ es3 inferInstance inferInstance HSM3.out HLN3.out).mono ?_
      rintro e w9 ⟨k9, rfl, hk9, HP⟩
      have HS9 := HP.sep
      have HE9 := HP.ext
      clear HP
      go_wp2_with (go_at_call 17; refine (eqErrors _ _ _ _ _ _ rs2 rs1).mono ?_; rintro e w5 ⟨rfl, HP⟩; rw [decide_eq_true (HRS2.out.trans HRS1.out.symm)]; have HS5 := HP.sep; have HE5 := HP.ext; clear HP)
      refine (markErrorsx _ _ _ _ _ rs2 HM2.out.2 HM2.out.1).mono ?_
      rintro e w10 ⟨rfl, HP⟩
      have HS10 := HP.sep
      have HE10 := HP.ext
      clear HP
      have q0 := mkEQ_nonneg rs2 1 (by omega)
      have iM : ∀ F, Nodes (OwnE (.slice A2 rs2.length c2) (mkEs 1 rs2) * F) (mkEs 1 rs2) := fun F => Nodes.of_OwnE F (mkEs_small HM2.out.2 1) (by rw [mkEs_len]; exact HM2.out.1)
      go_wp2_with fail
      refine (heldErrors _ _ _ _ rs2 HM2.out.2 HM2.out.1).mono ?_
      rintro e w11 ⟨rfl, HP⟩
      have HS11 := HP.sep
      have HE11 := HP.ext
      clear HP
      go_wp2_with fail
      refine (toErrors _ _ _ _ es).mono ?_
      rintro e w12 ⟨g12, es12, rfl, hl12, HP⟩
      have HS12 := HP.sep
      have HE12 := HP.ext
      have iB12 := Nodes.own (v := .slice (some ⟨g12, 0, none⟩) es12.length es12.length) hl12 HSM.out
      have HL12 := Hd.mk hl12
      clear HP hl12
      go_wp2_with fail
      refine (impl_PruneErrors _ _ _ _ es12 (PcOk.own (v := .slice (some ⟨g12, 0, none⟩) es12.length es12.length) HS12) a).mono ?_
      rintro e w13 ⟨A13, c13, rs13, rfl, hr13, HP⟩
      rw [HL12.out, HANS.out] at hr13
      rw [HL12.out, HOK.out]
      have HS13 := HP.sep
      have HE13 := HP.ext
      have HRS13 := Hd.mk hr13
      have hm13 := small_ec hr13 HSA.out
      have HM13 := Hd.mk hm13
      have iC13 : ∀ F, Nodes (OwnE (.slice A13 rs13.length c13) rs13 * F) rs13 := fun F => Nodes.of_OwnE F hm13.2 hm13.1
      clear HP hr13 hm13
      go_wp2_with (go_at_call 17; refine (eqErrors _ _ _ _ _ _ rs13 rs1).mono ?_; rintro e w5 ⟨rfl, HP⟩; rw [decide_eq_true (HRS13.out.trans HRS1.out.symm)]; have HS5 := HP.sep; have HE5 := HP.ext; clear HP)
      refine (heldErrors _ _ _ _ rs2 HM2.out.2 HM2.out.1).mono ?_
      rintro e w14 ⟨rfl, HP⟩
      have HS14 := HP.sep
      have HE14 := HP.ext
      clear HP
      go_wp2
      go_ret
      exact ⟨rfl, Post.mk' (Ent.sep (S := _) inferInstance inferInstance) inferInstance⟩
end Go.Proofs.Ytnmbmdigiaokjaa
