/- The law FnExactIsStep returns true at every argument that is read. Conditions: lengths within the model's bound. -/
import Derived.Test.YtmallhlddilmcaaLw
import Derived.Deep.DeepCutAuto
namespace Go.Proofs.Ytmallhlddilmcaa
open Go.RowKit SL
attribute [local go_sem] cell_blk frozen_blk lt_blk cell_at frozen_row lt_row
set_option linter.unusedVariables false
set_option linter.unusedSimpArgs false

theorem impl_IsStep (S : HP) (w : World) [H : SepI w S] (A : Option Addr) (c : Nat) (bs : List Bd) [r : Rd S A (cBds bs)] [B : Bodies S bs] (s : St) (p v : Bool) (hp : progB (bs.map (·.l)) = p) (hv : stepB s bs.length = v) :
    Calls Try.prog 35 #[.agg #[.slice A bs.length c], .agg #[.int .i64 s.k, .int .i64 s.a, .int .i64 s.b]] w fun e w' => e = .returned (.tuple #[.bool (p && v), .bool p]) ∧ Post w S w' := by
  have hn := B.n
  have HP := Hd.mk hp
  have HV := Hd.mk hv
  clear hp hv
  cases p
  all_goals
    go_enter Try.func35, Try.ntmps35
    go_wp2_with (first | (go_at_call 32; refine (impl_IsProgram _ _ _ _ bs _ HP.out).mono ?_; rintro e w1 ⟨rfl, HQ⟩; have HS1 := HQ.sep; have HE1 := HQ.ext; clear HQ) | (go_at_call 68; refine (impl_isStep _ _ s bs.length _ hn HV.out).mono ?_; rintro e w2 ⟨rfl, HQ⟩; have HS2 := HQ.sep; have HE2 := HQ.ext; clear HQ))
    go_ret2
    exact ⟨rfl, Post.mk' (Ent.sep (S := _) inferInstance inferInstance) inferInstance⟩
theorem spec_IsStep (S : HP) (w : World) [H : SepI w S] (A : Option Addr) (c : Nat) (bs : List Bd) [r : Rd S A (cBds bs)] [B : Bodies S bs] (s : St) (p v : Bool) (hp : progB (bs.map (·.l)) = p) (hv : stepB s bs.length = v) :
    Calls Try.prog 33 #[.agg #[.slice A bs.length c], .agg #[.int .i64 s.k, .int .i64 s.a, .int .i64 s.b]] w fun e w' => e = .returned (.tuple #[.bool (p && v), .bool p]) ∧ Post w S w' := by
  have hn := B.n
  have HP := Hd.mk hp
  have HV := Hd.mk hv
  clear hp hv
  cases p
  all_goals
    go_enter Try.func33, Try.ntmps33
    go_wp2_with (first | (go_at_call 62; refine (spec_l2Program _ _ _ _ bs).mono ?_; rintro e w1 ⟨rfl, HQ⟩; rw [HP.out]; have HS1 := HQ.sep; have HE1 := HQ.ext; clear HQ) | (go_at_call 69; refine (spec_l2Step _ _ _ _ s bs.length _ hn HV.out).mono ?_; rintro e w2 ⟨rfl, HQ⟩; have HS2 := HQ.sep; have HE2 := HQ.ext; clear HQ))
    go_ret2
    exact ⟨rfl, Post.mk' (Ent.sep (S := _) inferInstance inferInstance) inferInstance⟩

set_option maxRecDepth 100000 in
set_option maxHeartbeats 4000000 in
theorem law_IsStep (S : HP) (w : World) [H : SepI w S] (A : Option Addr) (c : Nat) (bs : List Bd) (a : ArgP S A bs) (s : St) :
    Calls Try.prog 9 #[.agg #[.slice A bs.length c], .agg #[.int .i64 s.k, .int .i64 s.a, .int .i64 s.b]] w fun e w' => e = .returned (.bool true) ∧ Post w S w' := by
  have r := a.rd
  have HA := Hd.mk a
  clear a
  go_enter Try.func9, Try.ntmps9
  go_wp2_with (go_at_call 29; refine (szProgram _ _ _ _ bs HA.out.max HA.out.n).mono ?_; rintro e w' ⟨q, rfl, hq, HP'⟩; have HS2 := HP'.sep; have HE2 := HP'.ext; clear HP'; rcases hq with rfl | hq)
  · go_ret
    exact ⟨rfl, Post.mk' (Ent.sep (S := _) inferInstance inferInstance) inferInstance⟩
  · have hq0 := hq.1
    have HSM := Hd.mk (SzOk.small hq)
    clear hq
    have iB : Bodies S bs := ⟨HA.out.inner, HSM.out.2, HSM.out.1⟩
    obtain ⟨p, hp⟩ : ∃ p, progB (bs.map (·.l)) = p := ⟨_, rfl⟩
    obtain ⟨v, hv⟩ : ∃ v, stepB s bs.length = v := ⟨_, rfl⟩
    have HP := Hd.mk hp
    have HV := Hd.mk hv
    clear hp hv
    go_upto_region 5 with fail
    go_cut [6, 7] (fun v6 v7 wx => v6 = .bool (p && v) ∧ v7 = .bool p ∧ ExtI w wx ∧ SepI wx (pts (w.heap.size + 1) (.cells #[.int .i64 s.k, .int .i64 s.a, .int .i64 s.b] 52 (0, 0)) * (pts w.heap.size (.cells #[.slice A bs.length c] 46 (0, 0)) * S)))
    case first =>
      go_region_with (first
        | (go_at_call 31; refine (toProgram _ _ _ _ bs).mono ?_; rintro e w1 ⟨g1, bs1, rfl, hl1, HQ⟩; have HS1 := HQ.sep; have HE1 := HQ.ext; have iB1 := Bodies.own (v := .slice (some ⟨g1, 0, none⟩) bs1.length bs1.length) hl1 HSM.out; have HL1 := Hd.mk hl1; have HN1 := Hd.mk (len_of_map hl1); clear HQ hl1)
        | (go_at_call 34; refine (toStep _ _ s).mono ?_; rintro e w2 ⟨rfl, HQ⟩; have HS2 := HQ.sep; have HE2 := HQ.ext; clear HQ)
        | (go_at_call 33; refine (spec_IsStep _ _ _ _ bs1 s p v (by rw [HL1.out]; exact HP.out) (by rw [HN1.out]; exact HV.out)).mono ?_; rintro e w3 ⟨rfl, HQ⟩; have HS3 := HQ.sep; have HE3 := HQ.ext; clear HQ))
      all_goals (go_wp2_with fail; go_meet; exact ⟨rfl, rfl, inferInstance, Ent.sep (S := _) inferInstance inferInstance⟩)
    case rest =>
      obtain ⟨rfl, rfl, HEc, HSc⟩ := hcut
      go_wp2_with fail
      refine (toProgram _ _ _ _ bs).mono ?_
      rintro e w3 ⟨g3, bs3, rfl, hl3, HQ⟩
      have HS3 := HQ.sep
      have HE3 := HQ.ext
      have iB3 := Bodies.own (v := .slice (some ⟨g3, 0, none⟩) bs3.length bs3.length) hl3 HSM.out
      have HL3 := Hd.mk hl3
      have HN3 := Hd.mk (len_of_map hl3)
      clear HQ hl3
      go_upto_region 7 with fail
      go_cut [9, 10] (fun v9 v10 wx => v9 = .bool (p && v) ∧ v10 = .bool p ∧ ExtI w wx ∧ SepI wx (pts w3.heap.size (.cells #[.slice (some ⟨g3, 0, none⟩) bs3.length bs3.length] 29 (0, 0)) * (OwnP (.slice (some ⟨g3, 0, none⟩) bs3.length bs3.length) bs3 * (pts (w.heap.size + 1) (.cells #[.int .i64 s.k, .int .i64 s.a, .int .i64 s.b] 52 (0, 0)) * (pts w.heap.size (.cells #[.slice A bs.length c] 46 (0, 0)) * S)))))
      case first =>
        go_region_with (first
          | (go_at_call 34; refine (toStep _ _ s).mono ?_; rintro e w2 ⟨rfl, HQ⟩; have HS2 := HQ.sep; have HE2 := HQ.ext; clear HQ)
          | (go_at_call 35; refine (impl_IsStep _ _ _ _ bs3 s p v (by rw [HL3.out]; exact HP.out) (by rw [HN3.out]; exact HV.out)).mono ?_; rintro e w4 ⟨rfl, HQ⟩; have HS4 := HQ.sep; have HE4 := HQ.ext; clear HQ))
        all_goals (go_wp2_with fail; go_meet; exact ⟨rfl, rfl, inferInstance, Ent.sep (S := _) inferInstance inferInstance⟩)
      case rest =>
        obtain ⟨rfl, rfl, HEd, HSd⟩ := hcut
        clear HV HP
        cases p <;> cases v
        all_goals
          go_wp2
          go_region_with (first | (go_at_call 31; refine (toProgram _ _ _ _ bs).mono ?_; rintro e w5 ⟨g5, bs5, rfl, hl5, HQ⟩; have HS5 := HQ.sep; have HE5 := HQ.ext; have iB5 := Bodies.own (v := .slice (some ⟨g5, 0, none⟩) bs5.length bs5.length) hl5 HSM.out; have HL5 := Hd.mk hl5; clear HQ hl5) | (go_at_call 21; refine (eqProgram _ _ _ _ _ _ bs3 _).mono ?_; rintro e w6 ⟨rfl, HQ⟩; have HS6 := HQ.sep; have HE6 := HQ.ext; clear HQ; rw [decide_eq_true (HL3.out.trans HL5.out.symm)]))
          all_goals
            go_wp2
            go_ret
            exact ⟨rfl, Post.mk' (Ent.sep (S := _) inferInstance inferInstance) inferInstance⟩
end Go.Proofs.Ytmallhlddilmcaa
