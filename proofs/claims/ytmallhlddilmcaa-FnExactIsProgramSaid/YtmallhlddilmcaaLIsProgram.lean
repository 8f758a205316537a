/- The law FnExactIsProgram returns true at every argument that is read. Conditions: lengths within the model's bound. -/
import Derived.Test.YtmallhlddilmcaaLw
namespace Go.Proofs.Ytmallhlddilmcaa
open Go.RowKit SL
attribute [local go_sem] cell_blk frozen_blk lt_blk cell_at frozen_row lt_row
set_option linter.unusedVariables false
set_option linter.unusedSimpArgs false

set_option maxRecDepth 100000 in
set_option maxHeartbeats 4000000 in
theorem law_IsProgram (S : HP) (w : World) [H : SepI w S] (A : Option Addr) (c : Nat) (bs : List Bd) (a : ArgP S A bs) :
    Calls Try.prog 8 #[.agg #[.slice A bs.length c]] w fun e w' => e = .returned (.bool true) ∧ Post w S w' := by
  have r := a.rd
  have HA := Hd.mk a
  clear a
  go_enter Try.func8, Try.ntmps8
  go_wp2_with (go_at_call 29; refine (szProgram _ _ _ _ bs HA.out.max HA.out.n).mono ?_; rintro e w' ⟨q, rfl, hq, HP'⟩; have HS2 := HP'.sep; have HE2 := HP'.ext; clear HP'; rcases hq with rfl | hq)
  · go_ret
    exact ⟨rfl, Post.mk' (Ent.sep (S := _) inferInstance inferInstance) inferInstance⟩
  · have hq0 := hq.1
    have HSM := Hd.mk (SzOk.small hq)
    clear hq
    have iB : Bodies S bs := ⟨HA.out.inner, HSM.out.2, HSM.out.1⟩
    go_wp2_with fail
    refine (toProgram _ _ _ _ bs).mono ?_
    rintro e w1 ⟨g1, bs1, rfl, hl1, HP⟩
    have HS1 := HP.sep
    have HE1 := HP.ext
    have iB1 := Bodies.own (v := .slice (some ⟨g1, 0, none⟩) bs1.length bs1.length) hl1 HSM.out
    have HL1 := Hd.mk hl1
    clear HP hl1
    go_wp2_with fail
    refine (spec_IsProgram _ _ _ _ bs1).mono ?_
    rintro e w2 ⟨rfl, HP⟩
    have HS2 := HP.sep
    have HE2 := HP.ext
    clear HP
    rw [HL1.out]
    go_wp2_with fail
    refine (toProgram _ _ _ _ bs).mono ?_
    rintro e w3 ⟨g3, bs3, rfl, hl3, HP⟩
    have HS3 := HP.sep
    have HE3 := HP.ext
    have iB3 := Bodies.own (v := .slice (some ⟨g3, 0, none⟩) bs3.length bs3.length) hl3 HSM.out
    have HL3 := Hd.mk hl3
    clear HP hl3
    go_wp2_with fail
    refine (impl_IsProgram _ _ _ _ bs3 _ (by rw [HL3.out])).mono ?_
    rintro e w4 ⟨rfl, HP⟩
    have HS4 := HP.sep
    have HE4 := HP.ext
    clear HP
    cases hv : progB (bs.map (·.l))
    all_goals
      clear hv
      go_wp2
      go_region_with (first | (go_at_call 31; refine (toProgram _ _ _ _ bs).mono ?_; rintro e w5 ⟨g5, bs5, rfl, hl5, HP⟩; have HS5 := HP.sep; have HE5 := HP.ext; have iB5 := Bodies.own (v := .slice (some ⟨g5, 0, none⟩) bs5.length bs5.length) hl5 HSM.out; have HL5 := Hd.mk hl5; clear HP hl5) | (go_at_call 21; refine (eqProgram _ _ _ _ _ _ bs3 _).mono ?_; rintro e w6 ⟨rfl, HP⟩; have HS6 := HP.sep; have HE6 := HP.ext; clear HP; rw [decide_eq_true (HL3.out.trans HL5.out.symm)]))
      all_goals
        go_wp2
        go_ret
        exact ⟨rfl, Post.mk' (Ent.sep (S := _) inferInstance inferInstance) inferInstance⟩
end Go.Proofs.Ytmallhlddilmcaa
