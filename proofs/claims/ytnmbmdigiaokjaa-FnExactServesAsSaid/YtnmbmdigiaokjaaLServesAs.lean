/- The law FnExactServesAs returns true at every argument that is read. Conditions: lengths within the model's bound. -/
import Derived.Test.YtnmbmdigiaokjaaVc
import Derived.Deep.RegionWith
namespace Go.Proofs.Ytnmbmdigiaokjaa
open Go.RowKit SL
attribute [local go_sem] cell_blk frozen_blk lt_blk cell_at frozen_row lt_row
set_option linter.unusedVariables false
set_option linter.unusedSimpArgs false

set_option maxRecDepth 100000 in
set_option maxHeartbeats 8000000 in
theorem law_ServesAs (S : HP) (w : World) [H : SepI w S] (A : Option Addr) (c : Nat) (es : List EN) (a b : Int) (a0 : ArgE S A es) :
    Calls Try.prog 3 #[.agg #[.slice A es.length c], .int .i64 a, .int .i64 b] w fun e w' => e = .returned (.bool true) ∧ Post w S w' := by
  have r := a0.rd
  have HA := Hd.mk a0
  clear a0
  go_enter Try.func3, Try.ntmps3
  go_wp2_with (go_at_call 13; refine (szErrors _ _ _ _ es HA.out.max HA.out.n).mono ?_; rintro e w' ⟨q, rfl, hq, HP'⟩; have HS2 := HP'.sep; have HE2 := HP'.ext; clear HP'; rcases hq with rfl | hq)
  · go_ret
    exact ⟨rfl, Post.mk' (Ent.sep (S := _) inferInstance inferInstance) inferInstance⟩
  · have hq0 := hq.1
    have HSM := Hd.mk (SzE.small hq)
    clear hq
    have iB : Nodes S es := ⟨HA.out.inner, HSM.out.2, HSM.out.1⟩
    go_wp2_with fail
    refine (toErrors _ _ _ _ es).mono ?_
    rintro e w1 ⟨g1, es1, rfl, hl1, HP⟩
    have HS1 := HP.sep
    have HE1 := HP.ext
    have iB1 := Nodes.own (v := .slice (some ⟨g1, 0, none⟩) es1.length es1.length) hl1 HSM.out
    have HL1 := Hd.mk hl1
    clear HP hl1
    go_wp2_with fail
    refine (spec_ServesAs _ _ _ _ es1 a b).mono ?_
    rintro e w2 ⟨rfl, HP⟩
    have HS2 := HP.sep
    have HE2 := HP.ext
    clear HP
    rw [HL1.out]
    go_wp2_with fail
    refine (toErrors _ _ _ _ es).mono ?_
    rintro e w3 ⟨g3, es3, rfl, hl3, HP⟩
    have HS3 := HP.sep
    have HE3 := HP.ext
    have iB3 := Nodes.own (v := .slice (some ⟨g3, 0, none⟩) es3.length es3.length) hl3 HSM.out
    have HL3 := Hd.mk hl3
    clear HP hl3
    go_wp2_with fail
    refine (impl_ServesAs _ _ _ _ es3 a b).mono ?_
    rintro e w4 ⟨rfl, HP⟩
    rw [HL3.out]
    have HS4 := HP.sep
    have HE4 := HP.ext
    clear HP
    obtain ⟨ok, hok⟩ : ∃ ok, servOk (es.map ecOf) a b = ok := ⟨_, rfl⟩
    obtain ⟨ans, hans⟩ : ∃ ans : Int, servAns (es.map ecOf) a b = ans := ⟨_, rfl⟩
    rw [hok, hans]
    clear hok hans
    cases ok
    all_goals
      go_wp2
      go_region_with (first | (go_at_call 15; refine (toErrors _ _ _ _ es).mono ?_; rintro e w5 ⟨g5, es5, rfl, hl5, HP⟩; have HS5 := HP.sep; have HE5 := HP.ext; have iB5 := Nodes.own (v := .slice (some ⟨g5, 0, none⟩) es5.length es5.length) hl5 HSM.out; have HL5 := Hd.mk hl5; clear HP hl5) | (go_at_call 17; refine (eqErrors _ _ _ _ _ _ es3 _).mono ?_; rintro e w6 ⟨rfl, HP⟩; have HS6 := HP.sep; have HE6 := HP.ext; clear HP; rw [decide_eq_true (HL3.out.trans HL5.out.symm)]))
      all_goals
        go_wp2
        go_ret
        exact ⟨rfl, Post.mk' (Ent.sep (S := _) inferInstance inferInstance) inferInstance⟩
end Go.Proofs.Ytnmbmdigiaokjaa
