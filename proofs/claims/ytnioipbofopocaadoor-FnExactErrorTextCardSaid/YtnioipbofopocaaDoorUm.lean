/- ErrorText by the reference, and the law FnExactErrorText. Conditions: the table of powers of ten reads as it is laid; lengths within bounds. -/
import Derived.Test.YtnioipbofopocaaDoorUl
import Derived.Test.YtnioipbofopocaaDoorEe
import Derived.Deep.RegionWith
namespace Go.Proofs.YtnioipbofopocaaDoor
open Go.RowKit SL
attribute [local go_sem] cell_blk frozen_blk lt_blk cell_at frozen_row lt_row
set_option linter.unusedVariables false
set_option linter.unusedSimpArgs false
set_option maxRecDepth 100000 in
set_option maxHeartbeats 4000000 in
theorem spec_ErrorText (S : HP) (w : World) [H : SepI w S] (A : Option Addr) (c : Nat) (es : List EN) [r : Rd S A (cENs es)] [B : Nodes S es] (a : Int) :
    Calls Tryd.prog 25 #[.agg #[.slice A es.length c], .int .i64 a] w (StrOk S (ans_ErrText (es.map ecOf) a) w) := by
  have hnot : ∀ (x : Bool) (w : World), (Op.unary .not (.bool x)).run Tryd.prog w = .ok (.bool (!x)) w := fun _ _ => rfl
  obtain ⟨ok, hok⟩ : ∃ ok, hasB (es.map ecOf) [a] = ok := ⟨_, rfl⟩
  have HOK := Hd.mk hok
  clear hok
  cases ok
  · rw [ans_ErrText_no HOK.out]
    go_enter Tryd.func25, Tryd.ntmps25
    go_wp2_with fail
    refine (spec_l6One _ _ _ _ es _ _ HOK.out).mono ?_
    rintro e w1 ⟨rfl, HP⟩
    have HS1 := HP.sep
    have HE1 := HP.ext
    clear HP
    go_wp2
    refine bodyPost_ret (v := .tuple #[.string ⟨#[]⟩, .bool false]) (by simp [results, Tryd.results25, go_sem]) rfl ?_
    exact ⟨rfl, Post.mk' (Ent.sep (S := _) inferInstance inferInstance) inferInstance⟩
  · obtain ⟨hv, k, rfl, hk⟩ := hasB_one HOK.out
    obtain ⟨T, hT⟩ := texts_get hk
    have HAN := Hd.mk (ans_ErrText_yes HOK.out hT)
    rw [HAN.out]
    have hs := small_of hv
    rw [List.length_map] at hk hs
    have HSY : Hd (∀ (S' : HP) (w' : World), SepI w' S' → Rd S' A (cENs es) → Nodes S' es → Calls Tryd.prog 54 #[.agg #[.slice A es.length c], .int .i64 (k : Int)] w' (SayP S' T (400 + 30 * 12) w')) := ⟨fun S' w' h1 h2 h3 => say_all 12 S' w' h1 A c es h2 h3 hv k hk (by omega) (by omega) T hT⟩
    clear hv hT hk hs
    go_enter Tryd.func25, Tryd.ntmps25
    go_wp2_with fail
    refine (spec_l6One _ _ _ _ es _ _ HOK.out).mono ?_
    rintro e w1 ⟨rfl, HP⟩
    have HS1 := HP.sep
    have HE1 := HP.ext
    clear HP
    go_wp2_with fail
    refine (HSY.out _ _ inferInstance inferInstance inferInstance).mono ?_
    rintro e w2 ⟨s, ok, rfl, HR, hsb, HP⟩
    have HS2 := HP.sep
    have HE2 := HP.ext
    clear HP
    cases ok
    · have HT0 : Hd (T = ByteArray.mk #[]) := ⟨HR.out⟩
      go_wp2
      refine bodyPost_ret (v := .tuple #[.string ⟨#[]⟩, .bool false]) (by simp [results, Tryd.results25, go_sem]) rfl ?_
      rw [HT0.out]
      exact ⟨rfl, Post.mk' (Ent.sep (S := _) inferInstance inferInstance) inferInstance⟩
    · have HT0 : Hd (s = T) := ⟨HR.out.1⟩
      have HT1 : Hd (decide (T.size ≠ 0) = true) := ⟨decide_eq_true HR.out.2⟩
      go_wp2
      refine bodyPost_ret (v := .tuple #[.string s, .bool true]) (by simp [results, Tryd.results25, go_sem]) rfl ?_
      rw [HT0.out, HT1.out]
      exact ⟨rfl, Post.mk' (Ent.sep (S := _) inferInstance inferInstance) inferInstance⟩
set_option maxRecDepth 100000 in
set_option maxHeartbeats 4000000 in
theorem law_ErrorText (S : HP) (w : World) [H : SepI w S] [t : TabI S] (A : Option Addr) (c : Nat) (es : List EN) (a0 : ArgE S A es) (a : Int) :
    Calls Tryd.prog 8 #[.agg #[.slice A es.length c], .int .i64 a] w fun e w' => e = .returned (.bool true) ∧ Post w S w' := by
  have r := a0.rd
  have HA := Hd.mk a0
  clear a0
  have hnot : ∀ (x : Bool) (w : World), (Op.unary .not (.bool x)).run Tryd.prog w = .ok (.bool (!x)) w := fun _ _ => rfl
  go_enter Tryd.func8, Tryd.ntmps8
  go_wp2_with (go_at_call 24; refine (szErrors _ _ _ _ es HA.out.max HA.out.n).mono ?_; rintro e w' ⟨q, rfl, hq, HP'⟩; have HS2 := HP'.sep; have HE2 := HP'.ext; clear HP'; rcases hq with rfl | hq)
  · go_ret
    exact ⟨rfl, Post.mk' (Ent.sep (S := _) inferInstance inferInstance) inferInstance⟩
  · have hq0 := hq.1
    have HSM := Hd.mk (SzE.small hq)
    clear hq
    have iB : Nodes S es := ⟨HA.out.inner, HSM.out.2, HSM.out.1⟩
    obtain ⟨ans, hans⟩ : ∃ ans, ans_ErrText (es.map ecOf) a = ans := ⟨_, rfl⟩
    have HANS := Hd.mk hans
    clear hans
    go_wp2_with fail
    refine (toErrors _ _ _ _ es).mono ?_
    rintro e w1 ⟨g1, es1, rfl, hl1, HP⟩
    have HS1 := HP.sep
    have HE1 := HP.ext
    have iB1 := Nodes.own (v := .slice (some ⟨g1, 0, none⟩) es1.length es1.length) hl1 HSM.out
    have HL1 := Hd.mk hl1
    clear HP hl1
    go_wp2_with fail
    refine (spec_ErrorText _ _ _ _ es1 a).mono ?_
    rw [HL1.out, HANS.out]
    obtain ⟨av, ao⟩ := ans
    rintro e w2 ⟨rfl, HP⟩
    have HS2 := HP.sep
    have HE2 := HP.ext
    clear HP
    go_wp2_with fail
    refine (toErrors _ _ _ _ es).mono ?_
    rintro e w3 ⟨g3, es3, rfl, hl3, HP⟩
    have HS3 := HP.sep
    have HE3 := HP.ext
    have iB3 := Nodes.own (v := .slice (some ⟨g3, 0, none⟩) es3.length es3.length) hl3 HSM.out
    have HL3 := Hd.mk hl3
    clear HP hl3
    go_wp2_with fail
    refine (impl_ErrorText _ _ _ _ es3 a).mono ?_
    rw [HL3.out, HANS.out]
    rintro e w4 ⟨rfl, HP⟩
    have HS4 := HP.sep
    have HE4 := HP.ext
    clear HP
    go_upto_region 10 with fail
    go_cut [43] (fun v49 wx => v49 = .bool false ∧ ExtI w wx ∧ SepI wx (pts w3.heap.size (.cells #[.slice (some ⟨g3, 0, none⟩) es3.length es3.length] 42 (0, 0)) * (OwnE (.slice (some ⟨g3, 0, none⟩) es3.length es3.length) es3 * (pts w.heap.size (.cells #[.slice A es.length c] 37 (0, 0)) * S))))
    case first =>
      go_region_with (first | (go_at_call 26; refine (toErrors _ _ _ _ es).mono ?_; rintro e w6 ⟨g6, es6, rfl, hl6, HP⟩; have HS6 := HP.sep; have HE6 := HP.ext; have iB6 := Nodes.own (v := .slice (some ⟨g6, 0, none⟩) es6.length es6.length) hl6 HSM.out; have HL6 := Hd.mk hl6; clear HP hl6) | (go_at_call 28; refine (eqErrors _ _ _ _ _ _ es3 _).mono ?_; rintro e w7 ⟨rfl, HP⟩; have HS7 := HP.sep; have HE7 := HP.ext; clear HP; rw [decide_eq_true (HL3.out.trans HL6.out.symm)]))
      all_goals
        go_wp2
        go_meet
        exact ⟨rfl, inferInstance, Ent.sep (S := _) inferInstance inferInstance⟩
    case rest =>
      obtain ⟨rfl, HE8, HS8⟩ := hcut
      go_wp2
      go_ret
      exact ⟨rfl, Post.mk' (Ent.sep (S := _) inferInstance inferInstance) inferInstance⟩
end Go.Proofs.YtnioipbofopocaaDoor
