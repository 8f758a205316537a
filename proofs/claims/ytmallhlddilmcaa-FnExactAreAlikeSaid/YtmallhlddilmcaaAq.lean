/- AreAlike: the reference's answer. Conditions: lengths within bounds. -/
import Derived.Test.YtmallhlddilmcaaAo
namespace Go.Proofs.Ytmallhlddilmcaa
open Go.RowKit SL
attribute [local go_sem] cell_blk frozen_blk lt_blk cell_at frozen_row lt_row
set_option linter.unusedVariables false
set_option linter.unusedSimpArgs false

set_option maxRecDepth 100000 in
set_option maxHeartbeats 8000000 in
theorem spec_AreAlike (S : HP) (w : World) [H : SepI w S] (A : Option Addr) (c : Nat) (es : List EN) [r : Rd S A (cENs es)] [B : Nodes S es] (a b : Int) :
    Calls Try.prog 48 #[.agg #[.slice A es.length c], .int .i64 a, .int .i64 b] w fun e w' => e = two (.bool (alikeAns (es.map ecOf) a b)) (.bool (hasB (es.map ecOf) [a, b])) ∧ Post w S w' := by
  obtain ⟨ok, hok⟩ : ∃ ok, hasB (es.map ecOf) [a, b] = ok := ⟨_, rfl⟩
  have HOK := Hd.mk hok
  rw [hok]
  obtain ⟨o1, ho1⟩ : ∃ o1, hasB (es.map ecOf) [a] = o1 := ⟨_, rfl⟩
  obtain ⟨o2, ho2⟩ : ∃ o2, hasB (es.map ecOf) [b] = o2 := ⟨_, rfl⟩
  rw [has_two', ho1, ho2] at hok
  have HO1 := Hd.mk ho1
  have HO2 := Hd.mk ho2
  have hn := B.n
  have HB := Hd.mk B
  clear ho1 ho2
  cases o1
  · subst hok
    have hans : alikeAns (es.map ecOf) a b = false := by unfold alikeAns; rw [HOK.out]; rfl
    rw [hans]
    clear hans
    go_enter Try.func48, Try.ntmps48
    go_wp2_with fail
    refine (spec_l6One _ _ _ _ es _ _ HO1.out).mono ?_
    rintro e w1 ⟨rfl, HP⟩
    have HS1 := HP.sep
    have HE1 := HP.ext
    clear HP
    go_wp2
    go_ret2
    exact ⟨rfl, Post.mk' (Ent.sep (S := _) inferInstance inferInstance) inferInstance⟩
  cases o2
  · subst hok
    have hans : alikeAns (es.map ecOf) a b = false := by unfold alikeAns; rw [HOK.out]; rfl
    rw [hans]
    clear hans
    go_enter Try.func48, Try.ntmps48
    go_wp2_with fail
    refine (spec_l6One _ _ _ _ es _ _ HO1.out).mono ?_
    rintro e w1 ⟨rfl, HP⟩
    have HS1 := HP.sep
    have HE1 := HP.ext
    clear HP
    go_wp2_with fail
    refine (spec_l6One _ _ _ _ es _ _ HO2.out).mono ?_
    rintro e w2 ⟨rfl, HP⟩
    have HS2 := HP.sep
    have HE2 := HP.ext
    clear HP
    go_wp2
    go_ret2
    exact ⟨rfl, Post.mk' (Ent.sep (S := _) inferInstance inferInstance) inferInstance⟩
  · subst hok
    obtain ⟨hv, ⟨k, rfl, hk⟩, t, rfl, ht⟩ := hasB_two HOK.out
    obtain ⟨v, hd⟩ := clss_at hk
    obtain ⟨u, hd2⟩ := clss_at ht
    have hans : alikeAns (es.map ecOf) k t = (v == u) := by unfold alikeAns; rw [HOK.out, if_pos (by rfl), Int.toNat_natCast, Int.toNat_natCast, getD_of hd, getD_of hd2]
    have htt : (true && true) = true := rfl
    rw [hans, htt]
    have HV := Hd.mk hv
    have HD := Hd.mk hd
    have HD2 := Hd.mk hd2
    rw [List.length_map] at hk ht
    clear hans hv hd hd2 htt
    go_enter Try.func48, Try.ntmps48
    go_wp2_with fail
    refine (spec_l6One _ _ _ _ es _ _ HO1.out).mono ?_
    rintro e w1 ⟨rfl, HP⟩
    have HS1 := HP.sep
    have HE1 := HP.ext
    clear HP
    go_wp2_with fail
    refine (spec_l6One _ _ _ _ es _ _ HO2.out).mono ?_
    rintro e w2 ⟨rfl, HP⟩
    have HS2 := HP.sep
    have HE2 := HP.ext
    clear HP
    go_wp2_with fail
    refine (spec_l6Classes _ _ _ _ es HV.out).mono ?_
    rintro e w3 ⟨g, rfl, HP⟩
    have HS3 := HP.sep
    have HE3 := HP.ext
    have d1 : CellAt _ g _ _ := Row.cellAt (e := 3) (size := 1) (g := g) (n := es.length) (c := es.length) (F := pts w.heap.size (.cells #[.slice A es.length c] 40 (0, 0)) * S) (j := k) (v := .int .i64 v) (ints_get HD.out)
    have d2 : CellAt _ g _ _ := Row.cellAt (e := 3) (size := 1) (g := g) (n := es.length) (c := es.length) (F := pts w.heap.size (.cells #[.slice A es.length c] 40 (0, 0)) * S) (j := t) (v := .int .i64 u) (ints_get HD2.out)
    clear HP
    go_wp2
    go_quiet (fail)
    go_wp2
    go_ret2
    exact ⟨rfl, Post.mk' (Ent.sep (S := _) inferInstance inferInstance) inferInstance⟩
end Go.Proofs.Ytmallhlddilmcaa
