/- ProgramText by the reference, and the law FnExactProgramText. Conditions: the table of powers of ten reads as it is laid; lengths within bounds. -/
import Derived.Test.YtnioipbofopocaaDoorUp
import Derived.Test.YtnioipbofopocaaDoorLw
import Derived.Test.YtnioipbofopocaaDoorPh
import Derived.Deep.RegionWith
namespace Go.Proofs.YtnioipbofopocaaDoor
open Go.RowKit SL
attribute [local go_sem] cell_blk frozen_blk lt_blk cell_at frozen_row lt_row
set_option linter.unusedVariables false
set_option linter.unusedSimpArgs false
set_option maxRecDepth 100000 in
set_option maxHeartbeats 4000000 in
theorem spec_ProgramText (S : HP) (w : World) [H : SepI w S] (A : Option Addr) (c : Nat) (bs : List Bd) [r : Rd S A (cBds bs)] [B : Bodies S bs] :
    Calls Tryd.prog 35 #[.agg #[.slice A bs.length c]] w (StrOk S (ans_PT (bs.map (·.l))) w) := by
  have hnot : ∀ (x : Bool) (w : World), (Op.unary .not (.bool x)).run Tryd.prog w = .ok (.bool (!x)) w := fun _ _ => rfl
  obtain ⟨v, hv⟩ : ∃ v, progB (bs.map (·.l)) = v := ⟨_, rfl⟩
  have HV := Hd.mk hv
  cases v
  · rw [ans_PT_no hv]
    clear hv
    go_enter Tryd.func35, Tryd.ntmps35
    go_wp2_with fail
    refine (spec_l2Program _ _ _ _ bs).mono ?_
    rw [HV.out]
    rintro e w1 ⟨rfl, HP⟩
    have HS1 := HP.sep
    have HE1 := HP.ext
    clear HP
    go_wp2
    refine bodyPost_ret (v := .tuple #[.string ⟨#[]⟩, .bool false]) (by simp [results, Tryd.results35, go_sem]) rfl ?_
    exact ⟨rfl, Post.mk' (Ent.sep (S := _) inferInstance inferInstance) inferInstance⟩
  · rw [ans_PT_yes hv]
    clear hv
    go_enter Tryd.func35, Tryd.ntmps35
    go_wp2_with fail
    refine (spec_l2Program _ _ _ _ bs).mono ?_
    rw [HV.out]
    rintro e w1 ⟨rfl, HP⟩
    have HS1 := HP.sep
    have HE1 := HP.ext
    clear HP
    go_wp2_with fail
    refine (spec_l2Text _ _ _ _ bs HV.out).mono ?_
    rintro e w2 ⟨rfl, HP⟩
    have HS2 := HP.sep
    have HE2 := HP.ext
    clear HP
    go_wp2
    refine bodyPost_ret (v := .tuple #[.string (mkT (progT (bs.map (·.l)))), .bool true]) (by simp [results, Tryd.results35, go_sem]) rfl ?_
    exact ⟨rfl, Post.mk' (Ent.sep (S := _) inferInstance inferInstance) inferInstance⟩
set_option maxRecDepth 100000 in
set_option maxHeartbeats 4000000 in
theorem law_ProgramText (S : HP) (w : World) [H : SepI w S] [t : TabI S] (A : Option Addr) (c : Nat) (es : List Bd) (a0 : ArgP S A es) :
    Calls Tryd.prog 10 #[.agg #[.slice A es.length c]] w fun e w' => e = .returned (.bool true) ∧ Post w S w' := by
  have r := a0.rd
  have HA := Hd.mk a0
  clear a0
  have hnot : ∀ (x : Bool) (w : World), (Op.unary .not (.bool x)).run Tryd.prog w = .ok (.bool (!x)) w := fun _ _ => rfl
  go_enter Tryd.func10, Tryd.ntmps10
  go_wp2_with (go_at_call 34; refine (szProgram _ _ _ _ es HA.out.max HA.out.n).mono ?_; rintro e w' ⟨q, rfl, hq, HP'⟩; have HS2 := HP'.sep; have HE2 := HP'.ext; clear HP'; rcases hq with rfl | hq)
  · go_ret
    exact ⟨rfl, Post.mk' (Ent.sep (S := _) inferInstance inferInstance) inferInstance⟩
  · have hq0 := hq.1
    have HSM := Hd.mk (SzOk.small hq)
    clear hq
    have iB : Bodies S es := ⟨HA.out.inner, HSM.out.2, HSM.out.1⟩
    obtain ⟨ans, hans⟩ : ∃ ans, ans_PT (es.map (·.l)) = ans := ⟨_, rfl⟩
    have HANS := Hd.mk hans
    clear hans
    go_wp2_with fail
    refine (toProgram _ _ _ _ es).mono ?_
    rintro e w1 ⟨g1, es1, rfl, hl1, HP⟩
    have HS1 := HP.sep
    have HE1 := HP.ext
    have iB1 := Bodies.own (v := .slice (some ⟨g1, 0, none⟩) es1.length es1.length) hl1 HSM.out
    have HL1 := Hd.mk hl1
    clear HP hl1
    go_wp2_with fail
    refine (spec_ProgramText _ _ _ _ es1).mono ?_
    rw [HL1.out, HANS.out]
    obtain ⟨av, ao⟩ := ans
    rintro e w2 ⟨rfl, HP⟩
    have HS2 := HP.sep
    have HE2 := HP.ext
    clear HP
    go_wp2_with fail
    refine (toProgram _ _ _ _ es).mono ?_
    rintro e w3 ⟨g3, es3, rfl, hl3, HP⟩
    have HS3 := HP.sep
    have HE3 := HP.ext
    have iB3 := Bodies.own (v := .slice (some ⟨g3, 0, none⟩) es3.length es3.length) hl3 HSM.out
    have HL3 := Hd.mk hl3
    clear HP hl3
    go_wp2_with fail
    refine (impl_ProgramText _ _ _ _ es3).mono ?_
    rw [HL3.out, HANS.out]
    rintro e w4 ⟨rfl, HP⟩
    have HS4 := HP.sep
    have HE4 := HP.ext
    clear HP
    go_upto_region 10 with fail
    go_cut [39] (fun v49 wx => v49 = .bool false ∧ ExtI w wx ∧ SepI wx (pts w3.heap.size (.cells #[.slice (some ⟨g3, 0, none⟩) es3.length es3.length] 48 (0, 0)) * (OwnP (.slice (some ⟨g3, 0, none⟩) es3.length es3.length) es3 * (pts w.heap.size (.cells #[.slice A es.length c] 55 (0, 0)) * S))))
    case first =>
      go_region_with (first | (go_at_call 36; refine (toProgram _ _ _ _ es).mono ?_; rintro e w6 ⟨g6, es6, rfl, hl6, HP⟩; have HS6 := HP.sep; have HE6 := HP.ext; have iB6 := Bodies.own (v := .slice (some ⟨g6, 0, none⟩) es6.length es6.length) hl6 HSM.out; have HL6 := Hd.mk hl6; clear HP hl6) | (go_at_call 31; refine (eqProgram _ _ _ _ _ _ es3 _).mono ?_; rintro e w7 ⟨rfl, HP⟩; have HS7 := HP.sep; have HE7 := HP.ext; clear HP; rw [decide_eq_true (HL3.out.trans HL6.out.symm)]))
      all_goals
        go_wp2
        go_meet
        exact ⟨rfl, inferInstance, Ent.sep (S := _) inferInstance inferInstance⟩
    case rest =>
      obtain ⟨rfl, HE8, HS8⟩ := hcut
      go_wp2
      go_ret
      exact ⟨rfl, Post.mk' (Ent.sep (S := _) inferInstance inferInstance) inferInstance⟩
end Go.Proofs.YtnioipbofopocaaDoor
