/- JoinErrors by the program and by the reference. Conditions: lengths within bounds. -/
import Derived.Test.YtnmbmdigiaokjaaOe
import Derived.StillTailTactics
namespace Go.Proofs.Ytnmbmdigiaokjaa
open Go.RowKit SL
attribute [local go_sem] cell_blk frozen_blk lt_blk cell_at frozen_row lt_row
set_option linter.unusedVariables false
set_option linter.unusedSimpArgs false

/-- Whether errors can be joined so; what JoinErrors answers. -/
def joinOk (es : List EC) (l : List Int) : Bool := inB l.length 1 12 && (hasB es l && !decide (es.length = 12))
def joinAns (es : List EC) (l : List Int) : List EC := if joinOk es l then aheadF 3 0 l es else []
theorem join_no {es : List EC} {l : List Int} (h : joinOk es l = false) : joinAns es l = [] := by unfold joinAns; rw [h]; rfl
theorem join_yes {es : List EC} {l : List Int} (h : joinOk es l = true) : joinAns es l = aheadF 3 0 l es := by unfold joinAns; rw [h]; rfl
theorem hasB_all {es : List EC} {l : List Int} (h : hasB es l = true) : errsB es = true ∧ ∀ y ∈ l, 0 ≤ y ∧ y ≤ 12 := by
  unfold hasB at h
  simp only [Bool.and_eq_true, List.all_eq_true] at h
  refine ⟨h.1, fun y hy => ?_⟩
  have h1 := inB_true (h.2 y hy)
  have h2 := (small_of h.1).2
  omega
theorem small_JoinErrors (es : List EC) (l : List Int) : (joinAns es l).length ≤ 1048576 ∧ ∀ x ∈ joinAns es l, x.2.2.length ≤ 1048576 := by
  cases h : joinOk es l
  · rw [join_no h]; exact few_nil
  · rw [join_yes h]
    unfold joinOk at h
    simp only [Bool.and_eq_true] at h
    have := inB_true h.1
    exact few_ahead (hasB_all h.2.1).1 (by omega)
set_option maxRecDepth 100000 in
set_option maxHeartbeats 2000000 in
theorem impl_JoinErrors (S : HP) (w : World) [H : SepI w S] (A : Option Addr) (c : Nat) (es : List EN) [r : Rd S A (cENs es)] [B : Nodes S es] (hpc : PcOk es) (PA : Option Addr) (pc : Nat) (l : List Int) [rl : Rd S PA (ints l)] (hA : PA = none → pc = 0) (hl : l.length ≤ 1048576) :
    Calls Try.prog 29 #[.agg #[.slice A es.length c], .slice PA l.length pc] w (ErrOk S (joinAns (es.map ecOf) l) (joinOk (es.map ecOf) l) w) := by
  obtain ⟨h, hh⟩ : ∃ h, hasB (es.map ecOf) l = h := ⟨_, rfl⟩
  obtain ⟨q, hq⟩ : ∃ q, inB (l.length : Int) 1 12 = q := ⟨_, rfl⟩
  have HH := Hd.mk hh
  have HQ := Hd.mk hq
  have hok : joinOk (es.map ecOf) l = (q && (h && !decide (es.length = 12))) := by unfold joinOk; rw [hh, hq, List.length_map]
  have hn := B.n
  have HPC := Hd.mk hpc
  clear hh hq hpc
  cases q
  · rw [join_no (by rw [hok]; rfl), hok]
    clear hok
    go_enter Try.func29, Try.ntmps29
    go_wp2_with (go_at_call 61; refine (impl_in _ _ _ _ _ HQ.out).mono ?_; rintro e w' ⟨rfl, rfl⟩)
    refine bodyPost_ret (v := .tuple #[.agg #[.slice none 0 0], .bool false]) (by simp [results, Try.results29, go_sem]) rfl ?_
    exact ErrOk.nil (Ent.sep (S := _) inferInstance inferInstance) inferInstance
  have hl12 : l.length ≤ 12 := by have := inB_true HQ.out; omega
  cases h
  · rw [join_no (by rw [hok]; rfl), hok]
    clear hok
    go_enter Try.func29, Try.ntmps29
    go_wp2_with (first | (go_at_call 61; refine (impl_in _ _ _ _ _ HQ.out).mono ?_; rintro e w' ⟨rfl, rfl⟩))
    refine (impl_has _ _ _ _ es _ _ l hl _ HH.out).mono ?_
    rintro e w1 ⟨rfl, HP⟩
    have HS1 := HP.sep
    have HE1 := HP.ext
    clear HP
    go_wp2
    refine bodyPost_ret (v := .tuple #[.agg #[.slice none 0 0], .bool false]) (by simp [results, Try.results29, go_sem]) rfl ?_
    exact ErrOk.nil (Ent.sep (S := _) inferInstance inferInstance) inferInstance
  · obtain ⟨hv, hbl⟩ := hasB_all HH.out
    obtain ⟨h12, hsm⟩ := errs_bounds hv
    have HSM := Hd.mk hsm
    have HBL := Hd.mk hbl
    clear hv hsm hbl
    by_cases hf : es.length = 12
    · rw [join_no (by rw [hok, decide_eq_true hf]; rfl), hok, decide_eq_true hf]
      have HF := Hd.mk hf
      clear hok hf
      go_enter Try.func29, Try.ntmps29
      go_wp2_with (first | (go_at_call 61; refine (impl_in _ _ _ _ _ HQ.out).mono ?_; rintro e w' ⟨rfl, rfl⟩))
      refine (impl_has _ _ _ _ es _ _ l hl _ HH.out).mono ?_
      rintro e w1 ⟨rfl, HP⟩
      have HS1 := HP.sep
      have HE1 := HP.ext
      clear HP
      go_wp2_with fail
      rw [HF.out]
      refine (impl_aheadFull _ _ _ _ _ _ _).mono ?_
      rintro e w2 ⟨A2, c2, es2, rfl, hm2, HP⟩
      have he2 : es2 = [] := List.map_eq_nil_iff.1 hm2
      subst he2
      have HS2 := HP.sep
      have HE2 := HP.ext
      clear HP
      go_wp2
      refine bodyPost_ret (v := .tuple #[.agg #[.slice A2 0 c2], .bool false]) (by simp [results, Try.results29, go_sem]) rfl ?_
      exact ⟨A2, c2, [], rfl, rfl, Post.mk' (Ent.sep (S := _) inferInstance inferInstance) inferInstance⟩
    · rw [join_yes (by rw [hok, decide_eq_false hf]; rfl), hok, decide_eq_false hf]
      clear hok
      go_enter Try.func29, Try.ntmps29
      go_wp2_with (first | (go_at_call 61; refine (impl_in _ _ _ _ _ HQ.out).mono ?_; rintro e w' ⟨rfl, rfl⟩))
      refine (impl_has _ _ _ _ es _ _ l hl _ HH.out).mono ?_
      rintro e w1 ⟨rfl, HP⟩
      have HS1 := HP.sep
      have HE1 := HP.ext
      clear HP
      go_wp2_with fail
      refine (impl_ahead _ _ _ _ es HPC.out (by omega) HSM.out 3 0 PA pc l hA hl12 HBL.out).mono ?_
      rintro e w2 ⟨A2, c2, es2, rfl, hm2, HP⟩
      have HM2 := Hd.mk hm2
      have HS2 := HP.sep
      have HE2 := HP.ext
      clear HP hm2
      go_wp2
      refine bodyPost_ret (v := .tuple #[.agg #[.slice A2 es2.length c2], .bool true]) (by simp [results, Try.results29, go_sem]) rfl ?_
      exact ⟨A2, c2, es2, rfl, HM2.out, Post.mk' (Ent.sep (S := _) inferInstance inferInstance) inferInstance⟩
theorem spec_l6ErrorsN (S : HP) (w : World) [H : SepI w S] (A : Option Addr) (c : Nat) (es : List EN) [r : Rd S A (cENs es)] [B : Nodes S es] (m : Nat) (hm : es.length = m) :
    Calls Try.prog 64 #[.agg #[.slice A m c]] w fun e w' => e = .returned (.bool (errsB (es.map ecOf))) ∧ Post w S w' := by
  subst hm
  exact spec_l6Errors S w A c es
set_option maxRecDepth 100000 in
set_option maxHeartbeats 2000000 in
theorem spec_JoinErrors (S : HP) (w : World) [H : SepI w S] (A : Option Addr) (c : Nat) (es : List EN) [r : Rd S A (cENs es)] [B : Nodes S es] (PA : Option Addr) (pc : Nat) (l : List Int) [rl : Rd S PA (ints l)] (hl : l.length ≤ 1048576) :
    Calls Try.prog 27 #[.agg #[.slice A es.length c], .slice PA l.length pc] w (ErrOk S (joinAns (es.map ecOf) l) (joinOk (es.map ecOf) l) w) := by
  obtain ⟨v, hv⟩ : ∃ v, errsB (es.map ecOf) = v := ⟨_, rfl⟩
  obtain ⟨q, hq⟩ : ∃ q, inB (l.length : Int) 1 12 = q := ⟨_, rfl⟩
  have HV := Hd.mk hv
  have HQ := Hd.mk hq
  have hok : joinOk (es.map ecOf) l = (q && (hasB (es.map ecOf) l && !decide (es.length = 12))) := by unfold joinOk; rw [hq, List.length_map]
  have hn := B.n
  clear hv hq
  cases v
  · have h0 : joinOk (es.map ecOf) l = false := by rw [hok]; unfold hasB; rw [HV.out]; cases q <;> rfl
    rw [join_no h0, h0]
    clear hok h0
    go_enter Try.func27, Try.ntmps27
    go_wp2_with fail
    refine (spec_l6Errors _ _ _ _ es).mono ?_
    rintro e w1 ⟨rfl, HP⟩
    rw [HV.out]
    have HS1 := HP.sep
    have HE1 := HP.ext
    clear HP
    go_wp2
    refine bodyPost_ret (v := .tuple #[.agg #[.slice none 0 0], .bool false]) (by simp [results, Try.results27, go_sem]) rfl ?_
    exact ErrOk.nil (Ent.sep (S := _) inferInstance inferInstance) inferInstance
  by_cases hf : es.length = 12
  · have h0 : joinOk (es.map ecOf) l = false := by rw [hok, decide_eq_true hf]; cases q <;> cases hasB (es.map ecOf) l <;> rfl
    rw [join_no h0, h0]
    have HF := Hd.mk hf
    rw [hf]
    clear hok h0 hf
    go_enter Try.func27, Try.ntmps27
    go_wp2_with fail
    refine (spec_l6ErrorsN _ _ _ _ es _ HF.out).mono ?_
    rintro e w1 ⟨rfl, HP⟩
    rw [HV.out]
    have HS1 := HP.sep
    have HE1 := HP.ext
    clear HP
    go_wp2
    refine bodyPost_ret (v := .tuple #[.agg #[.slice none 0 0], .bool false]) (by simp [results, Try.results27, go_sem]) rfl ?_
    exact ErrOk.nil (Ent.sep (S := _) inferInstance inferInstance) inferInstance
  cases q
  · rw [join_no (by rw [hok]; rfl), hok]
    clear hok
    go_enter Try.func27, Try.ntmps27
    go_wp2_with fail
    refine (spec_l6Errors _ _ _ _ es).mono ?_
    rintro e w1 ⟨rfl, HP⟩
    rw [HV.out]
    have HS1 := HP.sep
    have HE1 := HP.ext
    clear HP
    go_wp2_with (go_at_call 51; refine (spec_in _ _ _ _ _ HQ.out).mono ?_; rintro e w' ⟨rfl, rfl⟩)
    refine bodyPost_ret (v := .tuple #[.agg #[.slice none 0 0], .bool false]) (by simp [results, Try.results27, go_sem]) rfl ?_
    exact ErrOk.nil (Ent.sep (S := _) inferInstance inferInstance) inferInstance
  · have hl12 : l.length ≤ 12 := by have := inB_true HQ.out; omega
    rw [decide_eq_false hf] at hok
    obtain ⟨ll, hll⟩ : ∃ ll, ll = l.length := ⟨_, rfl⟩
    have HLL := Hd.mk hll
    obtain ⟨h12, hsm⟩ := errs_bounds HV.out
    have HSM := Hd.mk hsm
    have HOK : Hd (joinOk (es.map ecOf) l = hasB (es.map ecOf) l) := ⟨by rw [hok]; cases hasB (es.map ecOf) l <;> rfl⟩
    have HB := Hd.mk B
    rw [← hll] at HQ hl12 ⊢
    clear hok hll hsm hl
    obtain ⟨n, hnn⟩ : ∃ n, n = es.length := ⟨_, rfl⟩
    have HN := Hd.mk hnn
    rw [← hnn] at hf h12 hn ⊢
    clear hnn
    have h12' : n < 12 := by omega
    have hnb : ((n : Int) == 12) = false := beq_eq_false_iff_ne.2 (by omega)
    obtain ⟨ok, hok⟩ : ∃ ok, joinOk (es.map ecOf) l = ok := ⟨_, rfl⟩
    obtain ⟨ans, hans⟩ : ∃ ans, joinAns (es.map ecOf) l = ans := ⟨_, rfl⟩
    rw [hok, hans]
    have HOK2 := Hd.mk hok
    have HANS := Hd.mk hans
    clear hok hans hf
    obtain ⟨g2, hg2⟩ : ∃ g2, g2 = w.heap.size := ⟨_, rfl⟩
    go_enter Try.func27, Try.ntmps27
    go_wp2_with fail
    rw [← hg2]
    refine (spec_l6ErrorsN _ _ _ _ es _ HN.out.symm).mono ?_
    rintro e w1 ⟨rfl, HP⟩
    rw [HV.out]
    have HS1 := HP.sep
    have HE1 := HP.ext
    clear HP
    rw [← hg2] at HS1
    clear hg2
    go_wp2_with (go_at_call 51; refine (spec_in _ _ _ _ _ HQ.out).mono ?_; rintro e w' ⟨rfl, rfl⟩)
    go_loopw [6] (fun v6 wr => ∃ (i : Nat), i ≤ ll ∧ v6 = .int .i64 i ∧ ExtI w wr ∧ Hd (∀ (j : Nat) (y : Int), j < i → l[j]? = some y → inB y 0 ((es.map ecOf).length - 1) = true) ∧ SepI wr (pts (g2 + 1) (.cells #[.slice none 0 0] 30 (0, 0)) * (pts g2 (.cells #[.slice A n c] 30 (0, 0)) * S))) (fun v _ => ll - (intOf v).toNat)
    case atStart => exact ⟨0, Nat.zero_le _, rfl, inferInstance, ⟨fun j y h => absurd h (by omega)⟩, inferInstance⟩
    case round =>
      obtain ⟨i, hi, rfl, HX3, HI, HS3⟩ := hrel
      by_cases hlt : i < ll
      · obtain ⟨y, hy⟩ := get_ex (xs := l) (k := i) (by rw [← HLL.out]; exact hlt)
        obtain ⟨bp, op, rfl⟩ := rl.addr H (j := i) (by rw [ints_len, ← HLL.out]; exact hlt)
        have e1 := rl.cell (ints_get hy)
        obtain ⟨h, hh⟩ : ∃ h, hasB (es.map ecOf) [y] = h := ⟨_, rfl⟩
        have hin : inB y 0 (((es.map ecOf).length : Int) - 1) = h := by rw [← hh]; unfold hasB; rw [HV.out]; simp
        have HH := Hd.mk hh
        have HIN := Hd.mk hin
        have HY := Hd.mk hy
        clear hy hh hin
        go_wp2_with fail
        go_still_tail 5, (by kernel_rfl)
        change wpList _ _ _ _ _ wr.drew
        go_wp2_with fail
        refine (spec_l6OneN _ _ _ _ es _ _ HH.out _ HN.out.symm).mono ?_
        rintro e w4 ⟨rfl, HP⟩
        have HS4 := HP.sep
        have HE4 := HP.ext
        clear HP
        cases h
        · have h0 : joinOk (es.map ecOf) l = false := by
            rw [HOK.out]
            unfold hasB
            rw [HV.out, Bool.true_and, List.all_eq_false]
            exact ⟨y, List.mem_of_getElem? HY.out, by rw [HIN.out]; simp⟩
          obtain rfl : ok = false := by rw [← HOK2.out, h0]
          obtain rfl : ans = [] := by rw [← HANS.out, join_no h0]
          clear h0
          go_wp2
          refine bodyPost_ret (v := .tuple #[.agg #[.slice none 0 0], .bool false]) (by simp [results, Try.results27, go_sem]) rfl ?_
          exact ErrOk.nil (Ent.sep (S := _) inferInstance inferInstance) inferInstance
        · go_wp2
          go_roundw
          case rel => exact ⟨i + 1, by omega, by go_num, inferInstance, ⟨fun j z h hz => by
            by_cases hj : j < i
            · exact HI.out j z hj hz
            · have : j = i := by omega
              subst this
              rw [HY.out] at hz
              injection hz with hz
              subst hz
              exact HIN.out⟩, inferInstance⟩
          case measure => (simp [intOf]; try omega)
      · obtain rfl : ll = i := by omega
        have hall : hasB (es.map ecOf) l = true := by
          unfold hasB
          rw [HV.out, Bool.true_and, List.all_eq_true]
          intro y hy
          obtain ⟨j, hj⟩ := List.getElem?_of_mem hy
          exact HI.out j y (by rw [HLL.out]; exact (List.getElem?_eq_some_iff.1 hj).1) hj
        have HBL := Hd.mk (hasB_all hall).2
        have h0 : joinOk (es.map ecOf) l = true := by rw [HOK.out, hall]
        obtain rfl : ok = true := by rw [← HOK2.out, h0]
        obtain rfl : ans = aheadF 3 0 l (es.map ecOf) := by rw [← HANS.out, join_yes h0]
        clear h0 hall
        go_wp2_with fail
        have hC := spec_l6Ahead _ wr A c es (by rw [← HN.out]; exact h12') HSM.out 3 0 PA pc l (by rw [← HLL.out]; exact hl12) HBL.out
        rw [← HN.out, ← HLL.out] at hC
        refine hC.mono ?_
        rintro e w5 ⟨A2, c2, es2, rfl, hm2, HP⟩
        have HM2 := Hd.mk hm2
        have HS5 := HP.sep
        have HE5 := HP.ext
        clear HP hm2 hC
        go_wp2
        refine bodyPost_ret (v := .tuple #[.agg #[.slice A2 es2.length c2], .bool true]) (by simp [results, Try.results27, go_sem]) rfl ?_
        exact ⟨A2, c2, es2, rfl, HM2.out, Post.mk' (Ent.sep (S := _) inferInstance inferInstance) inferInstance⟩
end Go.Proofs.Ytnmbmdigiaokjaa
