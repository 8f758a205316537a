/- OpenPanics, by the program and by the reference. Conditions: lengths within bounds. -/
import Derived.Test.YtobikkdnalnllaaZq
import Derived.Test.YtobikkdnalnllaaDl
namespace Go.Proofs.Ytobikkdnalnllaa
open Go.RowKit SL
attribute [local go_sem] cell_blk frozen_blk lt_blk cell_at frozen_row lt_row
set_option linter.unusedVariables false
set_option linter.unusedSimpArgs false

/-- An integer and whether there is one. -/
def IntA (S : HP) (a : Int × Bool) (w : World) (e : Ending) (w' : World) : Prop := e = two (.int .i64 a.1) (.bool a.2) ∧ Post w S w'
def opnL (L : List Int) : List Int := L.filter (fun x => !(x != 0))
/-- How many panics are open. -/
def opnN (l : List Pn) : Nat := (opnL (l.map (fun p => p.fa))).length
theorem opnN_le (l : List Pn) : opnN l ≤ l.length := by
  unfold opnN opnL
  refine Nat.le_trans (List.length_filter_le ..) ?_
  rw [List.length_map]; exact Nat.le_refl _
theorem opnL_snoc (l : List Int) (x : Int) : (opnL (l ++ [x])).length = (opnL l).length + (if x = 0 then 1 else 0) := by
  unfold opnL
  rw [List.filter_append, List.length_append]
  congr 1
  by_cases h : x = 0
  · subst h; rfl
  · rw [if_neg h]; simp [h]
theorem enters_op2 : Enters 73 := fun args w => by go_simp
set_option maxRecDepth 100000 in
set_option maxHeartbeats 8000000 in
theorem impl_OpenPanics2 (S : HP) (x : Int) : Pred S 73 #[] (intV x) (x != 0) := fun w H => by
  unfold intV
  by_cases h : x = 0
  · subst h
    go_enter Try.func73, Try.ntmps73
    go_wp2
    go_ret
    exact ⟨rfl, Post.mk' (Ent.sep (S := _) inferInstance inferInstance) inferInstance⟩
  · have hb : (x == 0) = false := beq_eq_false_iff_ne.2 h
    have hn : (x != 0) = true := bne_iff_ne.2 h
    rw [hn]
    clear h
    go_enter Try.func73, Try.ntmps73
    go_wp2
    go_ret
    exact ⟨rfl, Post.mk' (Ent.sep (S := _) inferInstance inferInstance) inferInstance⟩
set_option maxRecDepth 100000 in
set_option maxHeartbeats 8000000 in
theorem impl_OpenPanicsN (S : HP) (w : World) [H : SepI w S] (A : Option Addr) (c : Nat) (bs : List Bd) [r : Rd S A (cBds bs)] [B : Bodies S bs] (fn arg fuel : Int) (hv : askB (bs.map (·.l)) fn arg fuel = false) :
    Calls Try.prog 32 #[.agg #[.slice A bs.length c], .int .i64 fn, .int .i64 arg, .int .i64 fuel] w (IntA S (0, false) w) := by
  have HV := Hd.mk hv
  clear hv
  obtain ⟨ans, hans⟩ : ∃ ans : List Int, ans = [] := ⟨_, rfl⟩
  have HAL : Hd (ans.length ≤ 1048576) := ⟨by rw [hans]; exact Nat.zero_le _⟩
  have HO : Hd ((ans.filter (fun x => !(x != 0))).length = 0) := ⟨by rw [hans]; rfl⟩
  have HANS := Hd.mk hans
  clear hans
  go_enter Try.func32, Try.ntmps32
  go_wp2_with fail
  refine (impl_ofPanicsN _ _ A c bs fn arg fuel _ _ HV.out).mono ?_
  rw [← HANS.out]
  rintro e w1 ⟨A1, c1, rfl, HP⟩
  have HS1 := HP.sep
  have HE1 := HP.ext
  clear HP
  go_wp2_with fail
  refine (deleteInt _ w1 A1 c1 ans (H := HS1) HAL.out _ _ (fun x => x != 0) enters_op2 (fun v n cs x hx => impl_OpenPanics2 _ x)).mono ?_
  rintro e w2 ⟨v2, rfl, HP⟩
  obtain ⟨A2, c2, rfl, _, _⟩ := Row.form HP.sep
  have HS2 := HP.sep
  have HE2 := HP.ext
  clear HP
  go_wp2
  go_ret2
  rw [HO.out]
  exact ⟨rfl, Post.mk' (Ent.sep (S := _) inferInstance inferInstance) inferInstance⟩
set_option maxRecDepth 100000 in
set_option maxHeartbeats 8000000 in
theorem impl_OpenPanicsV (S : HP) (w : World) [H : SepI w S] (A : Option Addr) (c : Nat) (bs : List Bd) [r : Rd S A (cBds bs)] [B : Bodies S bs] (fn arg : Int) (fu : Nat) (L : List (List St)) (hbs : bs.map (·.l) = L) (hv : askB L fn arg fu = true) :
    Calls Try.prog 32 #[.agg #[.slice A bs.length c], .int .i64 fn, .int .i64 arg, .int .i64 fu] w (IntA S ((opnN (ranM L fn arg fu).m.panics : Nat), true) w) := by
  have HV := Hd.mk hv
  have HB := Hd.mk hbs
  have HF := factsB hv
  have HAL : Hd (((ranM L fn arg fu).m.panics.map (fun p => p.fa)).length ≤ 1048576) := ⟨by rw [List.length_map]; have h1 := HF.bl.p; have h2 := HF.ts; omega⟩
  clear hv hbs HF
  unfold opnN opnL
  obtain ⟨ans, hans⟩ : ∃ ans, (ranM L fn arg fu).m.panics.map (fun p => p.fa) = ans := ⟨_, rfl⟩
  rw [hans] at HAL ⊢
  have HANS := Hd.mk hans
  clear hans
  have HEN : Hd (Enters 71) := ⟨fun args w => by go_simp⟩
  have HOF : Hd (∀ (X : HP) (R : Run), OfPn X A bs.length c fu R 71 #[] (fun p => p.fa)) := ⟨fun X R S0 y W HW => (@impl_OpenPanics1 S0 W HW y).mono fun e w h => h⟩
  go_enter Try.func32, Try.ntmps32
  go_wp2_with fail
  refine (impl_ofPanicsV _ _ A c bs _ _ _ HEN.out fn arg fu L HB.out HV.out (HOF.out _ _)).mono ?_
  rw [HANS.out]
  rintro e w1 ⟨A1, c1, rfl, HP⟩
  have HS1 := HP.sep
  have HE1 := HP.ext
  clear HP
  go_wp2_with fail
  refine (deleteInt _ w1 A1 c1 ans (H := HS1) HAL.out _ _ (fun x => x != 0) enters_op2 (fun v n cs x hx => impl_OpenPanics2 _ x)).mono ?_
  rintro e w2 ⟨v2, rfl, HP⟩
  obtain ⟨A2, c2, rfl, _, _⟩ := Row.form HP.sep
  have HS2 := HP.sep
  have HE2 := HP.ext
  clear HP
  go_wp2
  go_ret2
  exact ⟨rfl, Post.mk' (Ent.sep (S := _) inferInstance inferInstance) inferInstance⟩
set_option maxRecDepth 100000 in
set_option maxHeartbeats 8000000 in
theorem spec_OpenPanicsN (S : HP) (w : World) [H : SepI w S] (A : Option Addr) (c : Nat) (bs : List Bd) [r : Rd S A (cBds bs)] [B : Bodies S bs] (fn arg fuel : Int) (hv : askB (bs.map (·.l)) fn arg fuel = false) :
    Calls Try.prog 31 #[.agg #[.slice A bs.length c], .int .i64 fn, .int .i64 arg, .int .i64 fuel] w (IntA S (0, false) w) := by
  have hbn := B.n
  have HV := Hd.mk hv
  clear hv
  have hnot : ∀ (x : Bool) (w : World), (Op.unary .not (.bool x)).run Try.prog w = .ok (.bool (!x)) w := fun _ _ => rfl
  go_enter Try.func31, Try.ntmps31
  go_wp2_with fail
  refine (spec_l2Ask _ _ A c bs fn arg fuel _ HV.out).mono ?_
  rintro e w1 ⟨rfl, HP⟩
  have HS1 := HP.sep
  have HE1 := HP.ext
  clear HP
  go_wp2
  go_ret2
  exact ⟨rfl, Post.mk' (Ent.sep (S := _) inferInstance inferInstance) inferInstance⟩
set_option maxRecDepth 100000 in
set_option maxHeartbeats 8000000 in
theorem spec_OpenPanicsV (S : HP) (w : World) [H : SepI w S] (A : Option Addr) (c : Nat) (bs : List Bd) [r : Rd S A (cBds bs)] [B : Bodies S bs] (hnn : NoneNil bs) (fn arg : Int) (fu : Nat) (L : List (List St)) (hbs : bs.map (·.l) = L) (hv : askB L fn arg fu = true) :
    Calls Try.prog 31 #[.agg #[.slice A bs.length c], .int .i64 fn, .int .i64 arg, .int .i64 fu] w (IntA S ((opnN (ranM L fn arg fu).m.panics : Nat), true) w) := by
  have HNN := Hd.mk hnn
  have HV2 : Hd (askB (bs.map (·.l)) fn arg fu = true) := ⟨by rw [hbs]; exact hv⟩
  clear hnn
  have hbn := B.n
  have HV := Hd.mk hv
  have HB := Hd.mk hbs
  have HF := Hd.mk (factsB hv)
  clear hv hbs
  obtain ⟨R, hR⟩ : ∃ R, ranM L fn arg fu = R := ⟨_, rfl⟩
  have HR := Hd.mk hR
  rw [hR] at HF ⊢
  clear hR
  obtain ⟨⟨ca, pn, dp, un, rv, rp, bf⟩, hq, f1, f2, f3, f4, f5, f6⟩ := facts4 HF.out
  simp only at f1 f2 f3 f4 f5 f6
  have HQ := Hd.mk hq
  obtain ⟨m, hm⟩ : ∃ m, m = R.m.panics.length := ⟨_, rfl⟩
  have HM := Hd.mk hm
  have hpl : pn.length = m := by rw [f1, hm]; unfold fatA; exact List.length_map ..
  have HPL := Hd.mk hpl
  obtain ⟨O, hO⟩ : ∃ O : Nat → Nat, O = fun i => (opnL ((R.m.panics.take i).map (fun p => p.fa))).length := ⟨_, rfl⟩
  have HO0 : Hd (O 0 = 0) := ⟨by rw [hO]; rfl⟩
  have HOM : Hd (O m = opnN R.m.panics) := ⟨by rw [hO, hm]; unfold opnN; simp only [List.take_length]⟩
  have HOY : Hd (∀ (i : Nat) (x : Int × Int × Int), pn[i]? = some x → O (i + 1) = O i + (if x.2.2 = 0 then 1 else 0)) := ⟨fun i x h => by
    rw [f1] at h
    unfold fatA at h
    rw [List.getElem?_map] at h
    cases hp : R.m.panics[i]? with
    | none => rw [hp] at h; cases h
    | some p =>
      rw [hp] at h
      injection h with h
      subst h
      rw [hO]; simp only; rw [take_succ_eq hp, List.map_append]; exact opnL_snoc _ _⟩
  have HOL : Hd (∀ i : Nat, O i ≤ i) := ⟨fun i => by
    rw [hO]; simp only
    refine Nat.le_trans (opnN_le (R.m.panics.take i)) ?_
    rw [List.length_take]; omega⟩
  have hml : m ≤ 1000 := by have h1 := HF.out.bl.p; have h2 := HF.out.ts; omega
  rw [← HOM.out]
  clear hq f1 f2 f3 f4 f5 f6 hO hm hpl
  have hnot : ∀ (x : Bool) (w : World), (Op.unary .not (.bool x)).run Try.prog w = .ok (.bool (!x)) w := fun _ _ => rfl
  go_enter Try.func31, Try.ntmps31
  go_wp2_with fail
  refine (spec_l2Ask _ _ A c bs fn arg fu _ HV2.out).mono ?_
  rintro e w1 ⟨rfl, HP⟩
  have HS1 := HP.sep
  have HE1 := HP.ext
  clear HP
  go_wp2_with fail
  refine (spec_l4OfX _ _ A c bs HNN.out fn arg fu L HB.out HV.out _ (by rw [HR.out]; exact HQ.out)).mono ?_
  rintro e w2 ⟨⟨A1, c1, A2, c2, A3, c3, A4, c4, A5, c5, A6, c6, A7, c7, us⟩, hu, rfl, HP⟩
  have hval : r4V ⟨A1, c1, A2, c2, A3, c3, A4, c4, A5, c5, A6, c6, A7, c7, us⟩ ⟨ca, pn, dp, un, rv, rp, bf⟩ = .agg #[Value.slice A1 ca.length c1, .slice A2 pn.length c2, .slice A3 dp.length c3, .slice A4 us.length c4, .slice A5 rv.length c5, .slice A6 rp.length c6, .slice A7 bf.length c7] := rfl
  rw [hval]
  clear hval
  simp only at hu
  have HU := Hd.mk hu
  clear hu
  have HS2 := HP.sep
  have HE2 := HP.ext
  clear HP
  unfold R4H at HS2
  simp only at HS2
  rw [HPL.out] at HS2 ⊢
  obtain ⟨S2, HS2, rP, hout⟩ : ∃ S2 : HP, SepI w2 S2 ∧ Rd S2 A2 (c3s pn) ∧ (∀ (w : World) (X : HP), SepI w (X * S2) → SepI w (X * S)) := ⟨_, HS2, inferInstance, fun w X H => Ent.sep (S := _) inferInstance H⟩
  have HOUT := Hd.mk hout
  clear hout
  go_wp2
  go_loopw [11, 12] (fun v11 v12 wr => ∃ (i : Nat), i ≤ m ∧ v12 = .int .i64 i ∧ v11 = .int .i64 (O i : Nat) ∧ ExtI w wr ∧ SepI wr (pts w2.heap.size (.cells #[Value.slice A1 ca.length c1, .slice A2 m c2, .slice A3 dp.length c3, .slice A4 us.length c4, .slice A5 rv.length c5, .slice A6 rp.length c6, .slice A7 bf.length c7] 103 (0, 0)) * S2)) (fun _ v _ => m - (intOf v).toNat)
  case atStart => exact ⟨0, Nat.zero_le _, rfl, by rw [HO0.out]; rfl, inferInstance, inferInstance⟩
  case round =>
    obtain ⟨i, hi, rfl, rfl, HX, HS3⟩ := hrel
    have hoi := HOL.out i
    by_cases hlt : i < m
    · obtain ⟨⟨x1, x2, x3⟩, hs1⟩ := get_ex (xs := pn) (k := i) (by rw [HPL.out]; exact hlt)
      obtain ⟨bp, op, rfl⟩ := rP.addr HS2 (j := i) (by rw [c3s_len, HPL.out]; omega)
      have e1 := rP.cell (c3s_get hs1).2.2
      simp only at e1
      have HN := Hd.mk (HOY.out i _ hs1)
      clear hs1
      by_cases hx : x3 = 0
      · subst hx
        have HN2 : Hd (O (i + 1) = O i + 1) := ⟨HN.out⟩
        clear HN
        go_wp2
        go_roundw
        case rel => exact ⟨i + 1, by omega, by go_num, by rw [HN2.out]; go_num, inferInstance, inferInstance⟩
        case measure => (simp [intOf]; try omega)
      · have HN2 : Hd (O (i + 1) = O i) := ⟨by rw [HN.out, if_neg hx]; rfl⟩
        have hxb : (x3 == 0) = false := beq_eq_false_iff_ne.2 hx
        clear HN hx
        go_wp2
        go_roundw
        case rel => exact ⟨i + 1, by omega, by go_num, by rw [HN2.out], inferInstance, inferInstance⟩
        case measure => (simp [intOf]; try omega)
    · have : i = m := by omega
      subst this
      go_wp2
      go_ret2
      exact ⟨rfl, Post.mk' (SepI.right (HOUT.out _ _ HS3)) inferInstance⟩
def val_OpenPanics (L : List (List St)) (fn arg fuel : Int) : Int × Bool := if askB L fn arg fuel then (((opnN (ranM L fn arg fuel.toNat).m.panics : Nat) : Int), true) else (0, false)
theorem val_OpenPanics_no {L : List (List St)} {fn arg fuel : Int} (h : askB L fn arg fuel = false) : val_OpenPanics L fn arg fuel = (0, false) := by unfold val_OpenPanics; rw [h]; rfl
theorem val_OpenPanics_yes {L : List (List St)} {fn arg : Int} {fu : Nat} (h : askB L fn arg fu = true) : val_OpenPanics L fn arg fu = (((opnN (ranM L fn arg fu).m.panics : Nat) : Int), true) := by unfold val_OpenPanics; rw [if_pos h, Int.toNat_natCast]
theorem impl_OpenPanicsA (S : HP) (w : World) [H : SepI w S] (A : Option Addr) (c : Nat) (bs : List Bd) [r : Rd S A (cBds bs)] [B : Bodies S bs] (fn arg fuel : Int) :
    Calls Try.prog 32 #[.agg #[.slice A bs.length c], .int .i64 fn, .int .i64 arg, .int .i64 fuel] w (IntA S (val_OpenPanics (bs.map (·.l)) fn arg fuel) w) := by
  obtain ⟨v, hv⟩ : ∃ v, askB (bs.map (·.l)) fn arg fuel = v := ⟨_, rfl⟩
  cases v
  · rw [val_OpenPanics_no hv]; exact impl_OpenPanicsN S w A c bs fn arg fuel hv
  · obtain ⟨fu, rfl⟩ : ∃ fu : Nat, fuel = fu := ⟨fuel.toNat, by have := (askB_of hv).2.2.2.1; omega⟩
    rw [val_OpenPanics_yes hv]; exact impl_OpenPanicsV S w A c bs fn arg fu _ rfl hv
theorem spec_OpenPanicsA (S : HP) (w : World) [H : SepI w S] (A : Option Addr) (c : Nat) (bs : List Bd) [r : Rd S A (cBds bs)] [B : Bodies S bs] (hnn : NoneNil bs) (fn arg fuel : Int) :
    Calls Try.prog 31 #[.agg #[.slice A bs.length c], .int .i64 fn, .int .i64 arg, .int .i64 fuel] w (IntA S (val_OpenPanics (bs.map (·.l)) fn arg fuel) w) := by
  obtain ⟨v, hv⟩ : ∃ v, askB (bs.map (·.l)) fn arg fuel = v := ⟨_, rfl⟩
  cases v
  · rw [val_OpenPanics_no hv]; exact spec_OpenPanicsN S w A c bs fn arg fuel hv
  · obtain ⟨fu, rfl⟩ : ∃ fu : Nat, fuel = fu := ⟨fuel.toNat, by have := (askB_of hv).2.2.2.1; omega⟩
    rw [val_OpenPanics_yes hv]; exact spec_OpenPanicsV S w A c bs hnn fn arg fu _ rfl hv
end Go.Proofs.Ytobikkdnalnllaa
