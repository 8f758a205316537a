/- WrapError by the program and by the reference. Conditions: lengths within bounds. -/
import Derived.Test.YtnmbmdigiaokjaaOc
import Derived.Test.YtnmbmdigiaokjaaHs
import Derived.Test.YtnmbmdigiaokjaaDe
namespace Go.Proofs.Ytnmbmdigiaokjaa
open Go.RowKit SL
attribute [local go_sem] cell_blk frozen_blk lt_blk cell_at frozen_row lt_row
set_option linter.unusedVariables false
set_option linter.unusedSimpArgs false

theorem errs_bounds {es : List EN} (hv : errsB (es.map ecOf) = true) : es.length ≤ 12 ∧ ∀ x ∈ es, x.l.length ≤ 12 ∧ ∀ y ∈ x.l, 0 ≤ y ∧ y ≤ 12 := by
  have h12 := (small_of hv).2
  rw [List.length_map] at h12
  refine ⟨h12, fun x hx => ?_⟩
  obtain ⟨k, hk⟩ := List.getElem?_of_mem hx
  have hk' : (es.map ecOf)[k]? = some (ecOf x) := by rw [List.getElem?_map, hk]; rfl
  refine ⟨?_, fun y hy => ?_⟩
  · unfold errsB at hv
    simp only [Bool.and_eq_true] at hv
    have h1 := nodesB_at hv.2 hk'
    unfold nodeB at h1
    simp only [Bool.and_eq_true, decide_eq_true_eq] at h1
    exact h1.2.2.1
  · obtain ⟨j, hj⟩ := List.getElem?_of_mem hy
    obtain ⟨q, rfl, _, hq⟩ := part_at hv hk' (j := j) (p := y) hj
    rw [List.length_map] at hq
    omega
theorem ErrOk.nil {S : HP} {w w' : World} (H : SepI w' S) (E : ExtI w w') : ErrOk S [] false w (two (.agg #[.slice none 0 0]) (.bool false)) w' := ⟨none, 0, [], rfl, rfl, Post.mk' (OwnE.nil H) E⟩
set_option maxRecDepth 100000 in
set_option maxHeartbeats 2000000 in
theorem impl_aheadFull (S : HP) (w : World) [H : SepI w S] (A : Option Addr) (c : Nat) (v3 v4 : Int) (v5 : Value) :
    Calls Try.prog 62 #[.agg #[.slice A 12 c], .int .i64 v3, .int .i64 v4, v5] w (ErrOk S [] false w) := by
  go_enter Try.func62, Try.ntmps62
  go_wp2
  refine bodyPost_ret (v := .tuple #[.agg #[.slice none 0 0], .bool false]) (by simp [results, Try.results62, go_sem]) rfl ?_
  exact ErrOk.nil (Ent.sep (S := _) inferInstance inferInstance) inferInstance
/-- Whether an error can be wrapped so; what WrapError answers. -/
def wrapOk (es : List EC) (n code : Int) : Bool := hasB es [n] && (inB code 0 99 && !decide (es.length = 12))
def wrapAns (es : List EC) (n code : Int) : List EC := if wrapOk es n code then aheadF 2 code [n] es else []
theorem wrap_no {es : List EC} {n code : Int} (h : wrapOk es n code = false) : wrapAns es n code = [] := by unfold wrapAns; rw [h]; rfl
theorem wrap_yes {es : List EC} {n code : Int} (h : wrapOk es n code = true) : wrapAns es n code = aheadF 2 code [n] es := by unfold wrapAns; rw [h]; rfl
set_option maxRecDepth 100000 in
set_option maxHeartbeats 2000000 in
theorem impl_WrapError (S : HP) (w : World) [H : SepI w S] (A : Option Addr) (c : Nat) (es : List EN) [r : Rd S A (cENs es)] [B : Nodes S es] (hpc : PcOk es) (a b : Int) :
    Calls Try.prog 25 #[.agg #[.slice A es.length c], .int .i64 a, .int .i64 b] w (ErrOk S (wrapAns (es.map ecOf) a b) (wrapOk (es.map ecOf) a b) w) := by
  obtain ⟨h, hh⟩ : ∃ h, hasB (es.map ecOf) [a] = h := ⟨_, rfl⟩
  obtain ⟨q, hq⟩ : ∃ q, inB b 0 99 = q := ⟨_, rfl⟩
  have HH := Hd.mk hh
  have HQ := Hd.mk hq
  have hok : wrapOk (es.map ecOf) a b = (h && (q && !decide (es.length = 12))) := by unfold wrapOk; rw [hh, hq, List.length_map]
  have hn := B.n
  have HPC := Hd.mk hpc
  clear hh hq hpc
  cases h
  · rw [wrap_no (by rw [hok]; rfl), hok]
    clear hok
    go_enter Try.func25, Try.ntmps25
    go_wp2_with fail
    refine (impl_has _ _ _ _ es _ 1 [a] (rl := rd_one a) (by simp) _ HH.out).mono ?_
    rintro e w1 ⟨rfl, HP⟩
    have HS1 := HP.sep
    have HE1 := HP.ext
    clear HP
    go_wp2
    refine bodyPost_ret (v := .tuple #[.agg #[.slice none 0 0], .bool false]) (by simp [results, Try.results25, go_sem]) rfl ?_
    exact ErrOk.nil (Ent.sep (S := _) inferInstance inferInstance) inferInstance
  cases q
  · rw [wrap_no (by rw [hok]; rfl), hok]
    clear hok
    go_enter Try.func25, Try.ntmps25
    go_wp2_with fail
    refine (impl_has _ _ _ _ es _ 1 [a] (rl := rd_one a) (by simp) _ HH.out).mono ?_
    rintro e w1 ⟨rfl, HP⟩
    have HS1 := HP.sep
    have HE1 := HP.ext
    clear HP
    go_wp2_with (go_at_call 61; refine (impl_in _ _ _ _ _ HQ.out).mono ?_; rintro e w' ⟨rfl, rfl⟩)
    refine bodyPost_ret (v := .tuple #[.agg #[.slice none 0 0], .bool false]) (by simp [results, Try.results25, go_sem]) rfl ?_
    exact ErrOk.nil (Ent.sep (S := _) inferInstance inferInstance) inferInstance
  · obtain ⟨hv, k, rfl, hk⟩ := hasB_one HH.out
    obtain ⟨h12, hsm⟩ := errs_bounds hv
    rw [List.length_map] at hk
    have HSM := Hd.mk hsm
    have HK := Hd.mk hk
    clear hv hsm hk
    by_cases hf : es.length = 12
    · rw [wrap_no (by rw [hok, decide_eq_true hf]; rfl), hok, decide_eq_true hf]
      have HF := Hd.mk hf
      clear hok hf
      go_enter Try.func25, Try.ntmps25
      go_wp2_with fail
      refine (impl_has _ _ _ _ es _ 1 [(k : Int)] (rl := rd_one (k : Int)) (by simp) _ HH.out).mono ?_
      rintro e w1 ⟨rfl, HP⟩
      have HS1 := HP.sep
      have HE1 := HP.ext
      clear HP
      go_wp2_with (first | (go_at_call 61; refine (impl_in _ _ _ _ _ HQ.out).mono ?_; rintro e w' ⟨rfl, rfl⟩))
      rw [HF.out]
      refine (impl_aheadFull _ _ _ _ _ _ _).mono ?_
      rintro e w2 ⟨A2, c2, es2, rfl, hm2, HP⟩
      have he2 : es2 = [] := List.map_eq_nil_iff.1 hm2
      subst he2
      have HS2 := HP.sep
      have HE2 := HP.ext
      clear HP
      go_wp2
      refine bodyPost_ret (v := .tuple #[.agg #[.slice A2 0 c2], .bool false]) (by simp [results, Try.results25, go_sem]) rfl ?_
      exact ⟨A2, c2, [], rfl, rfl, Post.mk' (Ent.sep (S := _) inferInstance inferInstance) inferInstance⟩
    · rw [wrap_yes (by rw [hok, decide_eq_false hf]; rfl), hok, decide_eq_false hf]
      clear hok
      go_enter Try.func25, Try.ntmps25
      go_wp2_with fail
      refine (impl_has _ _ _ _ es _ 1 [(k : Int)] (rl := rd_one (k : Int)) (by simp) _ HH.out).mono ?_
      rintro e w1 ⟨rfl, HP⟩
      have HS1 := HP.sep
      have HE1 := HP.ext
      clear HP
      go_wp2_with (first | (go_at_call 61; refine (impl_in _ _ _ _ _ HQ.out).mono ?_; rintro e w' ⟨rfl, rfl⟩))
      refine (impl_ahead _ _ _ _ es HPC.out (by omega) HSM.out 2 b _ 1 [(k : Int)] (rl := rd_one (k : Int)) (fun h => by cases h) (by simp) (by have := HK.out; simp; omega)).mono ?_
      rintro e w2 ⟨A2, c2, es2, rfl, hm2, HP⟩
      have HM2 := Hd.mk hm2
      have HS2 := HP.sep
      have HE2 := HP.ext
      clear HP hm2
      go_wp2
      refine bodyPost_ret (v := .tuple #[.agg #[.slice A2 es2.length c2], .bool true]) (by simp [results, Try.results25, go_sem]) rfl ?_
      exact ⟨A2, c2, es2, rfl, HM2.out, Post.mk' (Ent.sep (S := _) inferInstance inferInstance) inferInstance⟩
theorem spec_l6OneN (S : HP) (w : World) [H : SepI w S] (A : Option Addr) (c : Nat) (es : List EN) [r : Rd S A (cENs es)] [B : Nodes S es] (n : Int) (v : Bool) (hv : hasB (es.map ecOf) [n] = v) (m : Nat) (hm : es.length = m) :
    Calls Try.prog 50 #[.agg #[.slice A m c], .int .i64 n] w fun e w' => e = .returned (.bool v) ∧ Post w S w' := by
  subst hm
  exact spec_l6One S w A c es n v hv
set_option maxRecDepth 100000 in
set_option maxHeartbeats 2000000 in
theorem spec_WrapError (S : HP) (w : World) [H : SepI w S] (A : Option Addr) (c : Nat) (es : List EN) [r : Rd S A (cENs es)] [B : Nodes S es] (hpc : PcOk es) (a b : Int) :
    Calls Try.prog 24 #[.agg #[.slice A es.length c], .int .i64 a, .int .i64 b] w (ErrOk S (wrapAns (es.map ecOf) a b) (wrapOk (es.map ecOf) a b) w) := by
  obtain ⟨h, hh⟩ : ∃ h, hasB (es.map ecOf) [a] = h := ⟨_, rfl⟩
  obtain ⟨q, hq⟩ : ∃ q, inB b 0 99 = q := ⟨_, rfl⟩
  have HH := Hd.mk hh
  have HQ := Hd.mk hq
  have hok : wrapOk (es.map ecOf) a b = (h && (q && !decide (es.length = 12))) := by unfold wrapOk; rw [hh, hq, List.length_map]
  have hn := B.n
  have HPC := Hd.mk hpc
  clear hh hq hpc
  cases h
  · rw [wrap_no (by rw [hok]; rfl), hok]
    clear hok
    go_enter Try.func24, Try.ntmps24
    go_wp2_with fail
    refine (spec_l6One _ _ _ _ es _ _ HH.out).mono ?_
    rintro e w1 ⟨rfl, HP⟩
    have HS1 := HP.sep
    have HE1 := HP.ext
    clear HP
    go_wp2
    refine bodyPost_ret (v := .tuple #[.agg #[.slice none 0 0], .bool false]) (by simp [results, Try.results24, go_sem]) rfl ?_
    exact ErrOk.nil (Ent.sep (S := _) inferInstance inferInstance) inferInstance
  · obtain ⟨hv, k, rfl, hk⟩ := hasB_one HH.out
    obtain ⟨h12, hsm⟩ := errs_bounds hv
    rw [List.length_map] at hk
    have HSM := Hd.mk hsm
    have HK := Hd.mk hk
    clear hv hsm hk
    by_cases hf : es.length = 12
    · rw [wrap_no (by rw [hok, decide_eq_true hf]; cases q <;> rfl), hok, decide_eq_true hf, show (true && (q && !true)) = false by cases q <;> rfl]
      have HF := Hd.mk hf
      rw [hf]
      clear hok hf
      go_enter Try.func24, Try.ntmps24
      go_wp2_with fail
      refine (spec_l6OneN _ _ _ _ es _ _ HH.out _ HF.out).mono ?_
      rintro e w1 ⟨rfl, HP⟩
      have HS1 := HP.sep
      have HE1 := HP.ext
      clear HP
      go_wp2
      refine bodyPost_ret (v := .tuple #[.agg #[.slice none 0 0], .bool false]) (by simp [results, Try.results24, go_sem]) rfl ?_
      exact ErrOk.nil (Ent.sep (S := _) inferInstance inferInstance) inferInstance
    · cases q
      · rw [wrap_no (by rw [hok]; rfl), hok]
        clear hok
        go_enter Try.func24, Try.ntmps24
        go_wp2_with fail
        refine (spec_l6One _ _ _ _ es _ _ HH.out).mono ?_
        rintro e w1 ⟨rfl, HP⟩
        have HS1 := HP.sep
        have HE1 := HP.ext
        clear HP
        go_wp2_with (go_at_call 51; refine (spec_in _ _ _ _ _ HQ.out).mono ?_; rintro e w' ⟨rfl, rfl⟩)
        refine bodyPost_ret (v := .tuple #[.agg #[.slice none 0 0], .bool false]) (by simp [results, Try.results24, go_sem]) rfl ?_
        exact ErrOk.nil (Ent.sep (S := _) inferInstance inferInstance) inferInstance
      · rw [wrap_yes (by rw [hok, decide_eq_false hf]; rfl), hok, decide_eq_false hf]
        clear hok
        go_enter Try.func24, Try.ntmps24
        go_wp2_with fail
        refine (spec_l6One _ _ _ _ es _ _ HH.out).mono ?_
        rintro e w1 ⟨rfl, HP⟩
        have HS1 := HP.sep
        have HE1 := HP.ext
        clear HP
        go_wp2_with (first | (go_at_call 51; refine (spec_in _ _ _ _ _ HQ.out).mono ?_; rintro e w' ⟨rfl, rfl⟩))
        refine (spec_l6Ahead _ _ _ _ es (by omega) HSM.out 2 b _ 1 [(k : Int)] (rl := rd_one (k : Int)) (by simp) (by have := HK.out; simp; omega)).mono ?_
        rintro e w2 ⟨A2, c2, es2, rfl, hm2, HP⟩
        have HM2 := Hd.mk hm2
        have HS2 := HP.sep
        have HE2 := HP.ext
        clear HP hm2
        go_wp2
        refine bodyPost_ret (v := .tuple #[.agg #[.slice A2 es2.length c2], .bool true]) (by simp [results, Try.results24, go_sem]) rfl ?_
        exact ⟨A2, c2, es2, rfl, HM2.out, Post.mk' (Ent.sep (S := _) inferInstance inferInstance) inferInstance⟩
end Go.Proofs.Ytnmbmdigiaokjaa
