/- RecoveredBy, by the program and by the reference. Conditions: lengths within bounds. -/
import Derived.Test.YtobikkdnalnllaaZq
import Derived.Test.YtobikkdnalnllaaYh
namespace Go.Proofs.Ytobikkdnalnllaa
open Go.RowKit SL
attribute [local go_sem] cell_blk frozen_blk lt_blk cell_at frozen_row lt_row
set_option linter.unusedVariables false
set_option linter.unusedSimpArgs false
theorem recA_len (m : Ma) : (recA m).length = m.recs.length := by unfold recA; exact List.length_map ..
set_option maxRecDepth 100000 in
set_option maxHeartbeats 8000000 in
theorem spec_RecoveredByN (S : HP) (w : World) [H : SepI w S] (A : Option Addr) (c : Nat) (bs : List Bd) [r : Rd S A (cBds bs)] [B : Bodies S bs] (fn arg fuel : Int) (hv : askB (bs.map (·.l)) fn arg fuel = false) :
    Calls Try.prog 44 #[.agg #[.slice A bs.length c], .int .i64 fn, .int .i64 arg, .int .i64 fuel] w (A2Ok S [] false w) := by
  have hbn := B.n
  have HV := Hd.mk hv
  clear hv
  have hnot : ∀ (x : Bool) (w : World), (Op.unary .not (.bool x)).run Try.prog w = .ok (.bool (!x)) w := fun _ _ => rfl
  go_enter Try.func44, Try.ntmps44
  go_wp2_with fail
  refine (spec_l2Ask _ _ A c bs fn arg fuel _ HV.out).mono ?_
  rintro e w1 ⟨rfl, HP⟩
  have HS1 := HP.sep
  have HE1 := HP.ext
  clear HP
  go_wp2
  go_ret2
  exact A2Ok.nil (v := .slice (some ⟨w1.heap.size, 0, none⟩) 0 0) (Post.mk' (Ent.sep (S := _) inferInstance (Row.lit0 (size := 2) (SepI.i_alloc w1 (.cells #[] 112 (0, 0)) _ _))) inferInstance)
set_option maxRecDepth 100000 in
set_option maxHeartbeats 8000000 in
theorem spec_RecoveredByV (S : HP) (w : World) [H : SepI w S] (A : Option Addr) (c : Nat) (bs : List Bd) [r : Rd S A (cBds bs)] [B : Bodies S bs] (hnn : NoneNil bs) (fn arg : Int) (fu : Nat) (L : List (List St)) (hbs : bs.map (·.l) = L) (hv : askB L fn arg fu = true) :
    Calls Try.prog 44 #[.agg #[.slice A bs.length c], .int .i64 fn, .int .i64 arg, .int .i64 fu] w (A2Ok S (recA (ranM L fn arg fu).m) true w) := by
  have HNN := Hd.mk hnn
  have HV2 : Hd (askB (bs.map (·.l)) fn arg fu = true) := ⟨by rw [hbs]; exact hv⟩
  clear hnn
  have hbn := B.n
  have HV := Hd.mk hv
  have HB := Hd.mk hbs
  have HF := Hd.mk (factsB hv)
  clear hv hbs
  obtain ⟨R, hR⟩ : ∃ R, ranM L fn arg fu = R := ⟨_, rfl⟩
  have HR := Hd.mk hR
  rw [hR] at HF ⊢
  clear hR
  obtain ⟨⟨ca, pn, dp, un, rv, rp, bf⟩, hq, f1, f2, f3, f4, f5, f6⟩ := facts4 HF.out
  simp only at f1 f2 f3 f4 f5 f6
  have HQ := Hd.mk hq
  rw [← f4]
  clear hq f1 f2 f3 f4 f5 f6
  have hnot : ∀ (x : Bool) (w : World), (Op.unary .not (.bool x)).run Try.prog w = .ok (.bool (!x)) w := fun _ _ => rfl
  go_enter Try.func44, Try.ntmps44
  go_wp2_with fail
  refine (spec_l2Ask _ _ A c bs fn arg fu _ HV2.out).mono ?_
  rintro e w1 ⟨rfl, HP⟩
  have HS1 := HP.sep
  have HE1 := HP.ext
  clear HP
  go_wp2_with fail
  refine (spec_l4OfX _ _ A c bs HNN.out fn arg fu L HB.out HV.out _ (by rw [HR.out]; exact HQ.out)).mono ?_
  rintro e w2 ⟨⟨A1, c1, A2, c2, A3, c3, A4, c4, A5, c5, A6, c6, A7, c7, us⟩, hu, rfl, HP⟩
  have hval : r4V ⟨A1, c1, A2, c2, A3, c3, A4, c4, A5, c5, A6, c6, A7, c7, us⟩ ⟨ca, pn, dp, un, rv, rp, bf⟩ = .agg #[Value.slice A1 ca.length c1, .slice A2 pn.length c2, .slice A3 dp.length c3, .slice A4 us.length c4, .slice A5 rv.length c5, .slice A6 rp.length c6, .slice A7 bf.length c7] := rfl
  rw [hval]
  clear hval
  simp only at hu
  have HU := Hd.mk hu
  clear hu
  have HS2 := HP.sep
  have HE2 := HP.ext
  clear HP
  unfold R4H at HS2
  simp only at HS2
  try simp only []
  rename_i hK
  refine hK _ _ ?_
  clear hK
  refine ev_val rfl _ rfl ?_
  go_wp2
  go_ret2
  exact A2Ok.of (v := .slice A5 rv.length c5) (Post.mk' (Ent.sep (S := _) inferInstance inferInstance) inferInstance)
def ok_RecoveredBy (L : List (List St)) (fn arg fuel : Int) : Bool := askB L fn arg fuel
def ans_RecoveredBy (L : List (List St)) (fn arg fuel : Int) : List (Int × Int) := if askB L fn arg fuel then recA (ranM L fn arg fuel.toNat).m else []
theorem ans_RecoveredBy_yes {L : List (List St)} {fn arg : Int} {fu : Nat} (h : askB L fn arg fu = true) : ans_RecoveredBy L fn arg fu = recA (ranM L fn arg fu).m := by unfold ans_RecoveredBy; rw [if_pos h]; rfl
theorem ans_RecoveredBy_no {L : List (List St)} {fn arg fuel : Int} (h : askB L fn arg fuel = false) : ans_RecoveredBy L fn arg fuel = [] := by unfold ans_RecoveredBy; rw [h]; rfl
theorem spec_RecoveredByA (S : HP) (w : World) [H : SepI w S] (A : Option Addr) (c : Nat) (bs : List Bd) [r : Rd S A (cBds bs)] [B : Bodies S bs] (hnn : NoneNil bs) (fn arg fuel : Int) :
    Calls Try.prog 44 #[.agg #[.slice A bs.length c], .int .i64 fn, .int .i64 arg, .int .i64 fuel] w (A2Ok S (ans_RecoveredBy (bs.map (·.l)) fn arg fuel) (ok_RecoveredBy (bs.map (·.l)) fn arg fuel) w) := by
  obtain ⟨v, hv⟩ : ∃ v, askB (bs.map (·.l)) fn arg fuel = v := ⟨_, rfl⟩
  have e : ok_RecoveredBy (bs.map (·.l)) fn arg fuel = v := hv
  rw [e]
  cases v
  · rw [ans_RecoveredBy_no hv]; exact spec_RecoveredByN S w A c bs fn arg fuel hv
  · obtain ⟨fu, rfl⟩ : ∃ fu : Nat, fuel = fu := ⟨fuel.toNat, by have := (askB_of hv).2.2.2.1; omega⟩
    rw [ans_RecoveredBy_yes hv]; exact spec_RecoveredByV S w A c bs hnn fn arg fu _ rfl hv
end Go.Proofs.Ytobikkdnalnllaa
