/- ReachedFrom by the program and by the reference. Conditions: lengths within bounds. -/
import Derived.Test.YtnmbmdigiaokjaaRc
namespace Go.Proofs.Ytnmbmdigiaokjaa
open Go.RowKit SL
attribute [local go_sem] cell_blk frozen_blk lt_blk cell_at frozen_row lt_row
set_option linter.unusedVariables false
set_option linter.unusedSimpArgs false

theorem reachAns_at {L : List (List St)} {k : Int} (h : funB L k = true) : reachAns L k = ascA (reachN L k 6) := by
  unfold reachAns; rw [h, if_pos rfl]
set_option maxRecDepth 100000 in
set_option maxHeartbeats 2000000 in
theorem impl_ReachedFrom (S : HP) (w : World) [H : SepI w S] (A : Option Addr) (c : Nat) (bs : List Bd) [r : Rd S A (cBds bs)] [B : Bodies S bs] (f : Int) :
    Calls Try.prog 41 #[.agg #[.slice A bs.length c], .int .i64 f] w (IntsOk S (reachAns (bs.map (·.l)) f) (funB (bs.map (·.l)) f) w) := by
  obtain ⟨ok, hok⟩ : ∃ ok, funB (bs.map (·.l)) f = ok := ⟨_, rfl⟩
  have HOK := Hd.mk hok
  rw [hok]
  have hn := B.n
  clear hok
  cases ok
  · have hans : reachAns (bs.map (·.l)) f = [] := by unfold reachAns; rw [HOK.out]; rfl
    rw [hans]
    clear hans
    go_enter Try.func41, Try.ntmps41
    go_wp2_with fail
    refine (impl_isFunction _ _ _ _ bs _ _ HOK.out).mono ?_
    rintro e w1 ⟨rfl, HP⟩
    have HS1 := HP.sep
    have HE1 := HP.ext
    clear HP
    go_wp2
    go_ret2
    exact IntsOk.nil (v := .slice none 0 0) (Post.mk' (Ent.sep (S := _) inferInstance (Row.nil0 HS1 3 1)) inferInstance)
  · obtain ⟨hv, k, rfl, hk⟩ := funB_of HOK.out
    rw [List.length_map] at hk
    rw [reachAns_at HOK.out]
    have HV := Hd.mk hv
    have HK := Hd.mk hk
    clear hv hk
    go_enter Try.func41, Try.ntmps41
    go_wp2_with fail
    refine (impl_isFunction _ _ _ _ bs _ _ HOK.out).mono ?_
    rintro e w1 ⟨rfl, HP⟩
    have HS1 := HP.sep
    have HE1 := HP.ext
    clear HP
    go_wp2_with fail
    refine (impl_reached _ _ _ _ bs HV.out k HK.out).mono ?_
    rintro e w2 ⟨v2, rfl, HP⟩
    have HS2 := HP.sep
    have HE2 := HP.ext
    clear HP
    go_wp2
    go_ret2
    exact IntsOk.of (v := v2) (Post.mk' (Ent.sep (S := _) inferInstance inferInstance) inferInstance)
set_option maxRecDepth 100000 in
set_option maxHeartbeats 2000000 in
theorem spec_ReachedFrom (S : HP) (w : World) [H : SepI w S] (A : Option Addr) (c : Nat) (bs : List Bd) [r : Rd S A (cBds bs)] [B : Bodies S bs] (f : Int) :
    Calls Try.prog 40 #[.agg #[.slice A bs.length c], .int .i64 f] w (IntsOk S (reachAns (bs.map (·.l)) f) (funB (bs.map (·.l)) f) w) := by
  obtain ⟨ok, hok⟩ : ∃ ok, funB (bs.map (·.l)) f = ok := ⟨_, rfl⟩
  have HOK := Hd.mk hok
  rw [hok]
  have hn := B.n
  obtain ⟨p, hp⟩ : ∃ p, progB (bs.map (·.l)) = p := ⟨_, rfl⟩
  obtain ⟨q, hq⟩ : ∃ q, inB f 0 ((bs.length : Int) - 1) = q := ⟨_, rfl⟩
  have HP0 := Hd.mk hp
  have HQ0 := Hd.mk hq
  have hpq : ok = (p && q) := by rw [← hok]; unfold funB; rw [List.length_map, hp, hq]
  clear hok hp hq
  cases p
  · subst hpq
    have hans : reachAns (bs.map (·.l)) f = [] := by unfold reachAns; rw [HOK.out]; rfl
    rw [hans]
    clear hans
    go_enter Try.func40, Try.ntmps40
    go_wp2_with fail
    refine (spec_l2Program _ _ _ _ bs).mono ?_
    rintro e w1 ⟨rfl, HP⟩
    rw [HP0.out]
    have HS1 := HP.sep
    have HE1 := HP.ext
    clear HP
    go_wp2
    go_ret2
    exact IntsOk.nil (v := .slice (some ⟨w1.heap.size, 0, none⟩) 0 0) (Post.mk' (Ent.sep (S := _) inferInstance (Row.lit0 (size := 1) (SepI.i_alloc w1 (.cells #[] 3 (0, 0)) _ _))) inferInstance)
  cases q
  · subst hpq
    have hans : reachAns (bs.map (·.l)) f = [] := by unfold reachAns; rw [HOK.out]; rfl
    rw [hans]
    clear hans
    go_enter Try.func40, Try.ntmps40
    go_wp2_with fail
    refine (spec_l2Program _ _ _ _ bs).mono ?_
    rintro e w1 ⟨rfl, HP⟩
    rw [HP0.out]
    have HS1 := HP.sep
    have HE1 := HP.ext
    clear HP
    go_wp2_with fail
    refine (spec_l2Function _ _ _ _ _ _ _ (by omega) HQ0.out).mono ?_
    rintro e w2 ⟨rfl, HP⟩
    have HS2 := HP.sep
    have HE2 := HP.ext
    clear HP
    go_wp2
    go_ret2
    exact IntsOk.nil (v := .slice (some ⟨w2.heap.size, 0, none⟩) 0 0) (Post.mk' (Ent.sep (S := _) inferInstance (Row.lit0 (size := 1) (SepI.i_alloc w2 (.cells #[] 3 (0, 0)) _ _))) inferInstance)
  · subst hpq
    obtain ⟨hv, k, rfl, hk⟩ := funB_of HOK.out
    rw [List.length_map] at hk
    rw [reachAns_at HOK.out]
    obtain ⟨R, hR⟩ : ∃ R, R = ascA (reachN (bs.map (·.l)) k 6) := ⟨_, rfl⟩
    rw [← hR]
    have HRR := Hd.mk hR
    clear hR
    have HV := Hd.mk hv
    have HK := Hd.mk hk
    clear hv hk
    go_enter Try.func40, Try.ntmps40
    go_wp2_with fail
    refine (spec_l2Program _ _ _ _ bs).mono ?_
    rintro e w1 ⟨rfl, HP⟩
    rw [HP0.out]
    have HS1 := HP.sep
    have HE1 := HP.ext
    clear HP
    go_wp2_with fail
    refine (spec_l2Function _ _ _ _ _ _ _ (by omega) HQ0.out).mono ?_
    rintro e w2 ⟨rfl, HP⟩
    have HS2 := HP.sep
    have HE2 := HP.ext
    clear HP
    go_wp2_with fail
    have hC := spec_l2Reach _ w2 A c bs HV.out k HK.out
    rw [← HRR.out] at hC
    refine hC.mono ?_
    rintro e w3 ⟨g, cc, rfl, HP⟩
    have HS3 := HP.sep
    have HE3 := HP.ext
    clear HP
    go_wp2
    go_ret2
    exact IntsOk.of (v := .slice (some ⟨g, 0, none⟩) R.length cc) (Post.mk' (Ent.sep (S := _) inferInstance inferInstance) inferInstance)
end Go.Proofs.Ytnmbmdigiaokjaa
