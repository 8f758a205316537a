/- The law FnExactRecoverGaps returns true at every argument that is read. Conditions: lengths within the model's bound. -/
import Derived.Test.YtobikkdnalnllaaZx
import Derived.Test.YtobikkdnalnllaaQa
import Derived.Deep.RegionWith
namespace Go.Proofs.Ytobikkdnalnllaa
open Go.RowKit SL
attribute [local go_sem] cell_blk frozen_blk lt_blk cell_at frozen_row lt_row
set_option linter.unusedVariables false
set_option linter.unusedSimpArgs false
set_option maxRecDepth 100000 in
set_option maxHeartbeats 4000000 in
theorem law_RecoverGaps (S : HP) (w : World) [H : SepI w S] (A : Option Addr) (c : Nat) (es : List Bd) (fn arg fuel : Int) (a0 : ArgP S A es) :
    Calls Try.prog 14 #[.agg #[.slice A es.length c], .int .i64 fn, .int .i64 arg, .int .i64 fuel] w fun e w' => e = .returned (.bool true) ∧ Post w S w' := by
  have r := a0.rd
  have HA := Hd.mk a0
  clear a0
  have hnot : ∀ (x : Bool) (w : World), (Op.unary .not (.bool x)).run Try.prog w = .ok (.bool (!x)) w := fun _ _ => rfl
  go_enter Try.func14, Try.ntmps14
  go_wp2_with (go_at_call 15; refine (szProgram _ _ _ _ es HA.out.max HA.out.n).mono ?_; rintro e w' ⟨q, rfl, hq, HP'⟩; have HS2 := HP'.sep; have HE2 := HP'.ext; clear HP'; rcases hq with rfl | hq)
  · go_ret
    exact ⟨rfl, Post.mk' (Ent.sep (S := _) inferInstance inferInstance) inferInstance⟩
  · have hq0 := hq.1
    have HSM := Hd.mk (SzOk.small hq)
    clear hq
    have iB : Bodies S es := ⟨HA.out.inner, HSM.out.2, HSM.out.1⟩
    obtain ⟨ok, hok⟩ : ∃ ok, ok_RecoverGaps (es.map (·.l)) fn arg fuel = ok := ⟨_, rfl⟩
    obtain ⟨ans, hans⟩ : ∃ ans, ans_RecoverGaps (es.map (·.l)) fn arg fuel = ans := ⟨_, rfl⟩
    have HOK := Hd.mk hok
    have HANS := Hd.mk hans
    have hlen : ans.length ≤ 1048576 := by rw [← hans]; exact small_RecoverGaps _ fn arg fuel
    clear hok hans
    go_wp2_with fail
    refine (toProgram _ _ _ _ es).mono ?_
    rintro e w1 ⟨g1, es1, rfl, hl1, HP⟩
    have HS1 := HP.sep
    have HE1 := HP.ext
    have iB1 := Bodies.own (v := .slice (some ⟨g1, 0, none⟩) es1.length es1.length) hl1 HSM.out
    have HL1 := Hd.mk hl1
    have HNN1 := Hd.mk (NoneNil.of HS1)
    clear HP hl1
    go_wp2_with fail
    refine (spec_RecoverGapsA _ _ _ _ es1 HNN1.out fn arg fuel).mono ?_
    rw [HL1.out, HOK.out, HANS.out]
    rintro e w2 ⟨A1, c1, rfl, HP⟩
    have HS2 := HP.sep
    have HE2 := HP.ext
    clear HP
    go_wp2_with fail
    refine (toProgram _ _ _ _ es).mono ?_
    rintro e w3 ⟨g3, es3, rfl, hl3, HP⟩
    have HS3 := HP.sep
    have HE3 := HP.ext
    have iB3 := Bodies.own (v := .slice (some ⟨g3, 0, none⟩) es3.length es3.length) hl3 HSM.out
    have HL3 := Hd.mk hl3
    have HSM3 := Hd.mk (small_of_map hl3 HSM.out.2)
    have HLN3 : Hd (es3.length ≤ 1048576) := ⟨by rw [len_of_map hl3]; exact HSM.out.1⟩
    clear HP hl3
    go_wp2_with fail
    refine (impl_RecoverGapsA _ _ _ _ es3 fn arg fuel).mono ?_
    rw [HL3.out, HOK.out, HANS.out]
    rintro e w4 ⟨A2, c2, rfl, HP⟩
    have HS4 := HP.sep
    have HE4 := HP.ext
    clear HP
    go_upto_region 10 with (first | (go_at_call 19; refine (eqIntS _ _ _ _ _ _ ans ans (by unfold maxLen; omega) (by unfold maxLen; omega)).mono ?_; rintro e w5 ⟨rfl, HP⟩; rw [decide_eq_true rfl]; have HS5 := HP.sep; have HE5 := HP.ext; clear HP))
    go_cut [57] (fun v49 wx => v49 = .bool false ∧ ExtI w wx ∧ SepI wx (Row 3 1 (.slice A2 ans.length c2) ans.length (ints ans) * (Row 3 1 (.slice A1 ans.length c1) ans.length (ints ans) * (pts w3.heap.size (.cells #[.slice (some ⟨g3, 0, none⟩) es3.length es3.length] 31 (0, 0)) * (OwnP (.slice (some ⟨g3, 0, none⟩) es3.length es3.length) es3 * (pts w.heap.size (.cells #[.slice A es.length c] 24 (0, 0)) * S))))))
    case first =>
      go_region_with (first | (go_at_call 17; refine (toProgram _ _ _ _ es).mono ?_; rintro e w6 ⟨g6, es6, rfl, hl6, HP⟩; have HS6 := HP.sep; have HE6 := HP.ext; have iB6 := Bodies.own (v := .slice (some ⟨g6, 0, none⟩) es6.length es6.length) hl6 HSM.out; have HL6 := Hd.mk hl6; clear HP hl6) | (go_at_call 20; refine (eqProgram _ _ _ _ _ _ es3 _).mono ?_; rintro e w7 ⟨rfl, HP⟩; have HS7 := HP.sep; have HE7 := HP.ext; clear HP; rw [decide_eq_true (HL3.out.trans HL6.out.symm)]))
      all_goals
        go_wp2
        go_meet
        exact ⟨rfl, inferInstance, Ent.sep (S := _) inferInstance inferInstance⟩
    case rest =>
      obtain ⟨rfl, HE8, HS8⟩ := hcut
      go_wp2_with fail
      refine (@markProgram _ _ _ _ _ es3 inferInstance inferInstance HSM3.out HLN3.out).mono ?_
      rintro e w9 ⟨k9, rfl, hk9, HP⟩
      have HS9 := HP.sep
      have HE9 := HP.ext
      clear HP
      go_wp2_with (go_at_call 19; refine (eqIntS _ _ _ _ _ _ ans ans (by unfold maxLen; omega) (by unfold maxLen; omega)).mono ?_; rintro e w5 ⟨rfl, HP⟩; rw [decide_eq_true rfl]; have HS5 := HP.sep; have HE5 := HP.ext; clear HP)
      refine (@markIntS _ _ _ _ ans (SepI.pick (S := _) inferInstance inferInstance) 1 (by omega) (by omega) (by omega)).mono ?_
      rintro e w10 ⟨rfl, HP⟩
      have HS10 := HP.sep
      have HE10 := HP.ext
      clear HP
      go_wp2_with fail
      refine (heldIntS _ _ _ _ _ 1 (by omega) (by omega) (by omega)).mono ?_
      rintro e w11 ⟨rfl, rfl⟩
      go_wp2_with fail
      refine (toProgram _ _ _ _ es).mono ?_
      rintro e w12 ⟨g12, es12, rfl, hl12, HP⟩
      have HS12 := HP.sep
      have HE12 := HP.ext
      have iB12 := Bodies.own (v := .slice (some ⟨g12, 0, none⟩) es12.length es12.length) hl12 HSM.out
      have HL12 := Hd.mk hl12
      clear HP hl12
      go_wp2_with fail
      refine (impl_RecoverGapsA _ _ _ _ es12 fn arg fuel).mono ?_
      rw [HL12.out, HOK.out, HANS.out]
      rintro e w13 ⟨A3, c3, rfl, HP⟩
      have HS13 := HP.sep
      have HE13 := HP.ext
      clear HP
      go_wp2_with (go_at_call 19; refine (eqIntS _ _ _ _ _ _ ans ans (by unfold maxLen; omega) (by unfold maxLen; omega)).mono ?_; rintro e w5 ⟨rfl, HP⟩; rw [decide_eq_true rfl]; have HS5 := HP.sep; have HE5 := HP.ext; clear HP)
      refine (heldIntS _ _ _ _ _ 1 (by omega) (by omega) (by omega)).mono ?_
      rintro e w14 ⟨rfl, rfl⟩
      go_wp2
      go_ret
      exact ⟨rfl, Post.mk' (Ent.sep (S := _) inferInstance inferInstance) inferInstance⟩
end Go.Proofs.Ytobikkdnalnllaa
