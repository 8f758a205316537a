/- CalledBy by the program and by the reference. Conditions: lengths within bounds. -/
import Derived.Test.YtnmbmdigiaokjaaFd
import Derived.Test.YtnmbmdigiaokjaaDf
namespace Go.Proofs.Ytnmbmdigiaokjaa
open Go.RowKit SL
attribute [local go_sem] cell_blk frozen_blk lt_blk cell_at frozen_row lt_row
set_option linter.unusedVariables false
set_option linter.unusedSimpArgs false

def calledAns (L : List (List St)) (f : Int) : List Int := if funB L f then ascA (callN kCD (L.getD f.toNat [])) else []
theorem kCD_eq : ([4, 5] : List Int).contains = kCD := by
  funext k
  unfold kCD
  simp [List.contains_cons]
  rfl
theorem small_CalledBy (L : List (List St)) (f : Int) : (calledAns L f).length ≤ 1048576 := by
  unfold calledAns
  split
  · rename_i h
    obtain ⟨hv, k, rfl, hk⟩ := funB_of h
    obtain ⟨x, hx⟩ := get_ex hk
    have h1 := ascA_len (callN kCD (L.getD (Int.toNat k) []))
    have h2 := callN_len kCD (L.getD (Int.toNat k) [])
    have h3 := (prog_small hv).2.2 x (List.mem_of_getElem? hx)
    rw [Int.toNat_natCast, List.getD_eq_getElem?_getD, hx] at h1 h2 ⊢
    simp only [Option.getD_some] at h1 h2 ⊢
    omega
  · simp
theorem calledAns_at {bs : List Bd} {k : Nat} {x : Bd} (h : funB (bs.map (·.l)) k = true) (hx : bs[k]? = some x) : calledAns (bs.map (·.l)) k = ascA (callN kCD x.l) ∧ x.l.length ≤ 8 := by
  constructor
  · unfold calledAns; rw [h, if_pos rfl, Int.toNat_natCast, List.getD_eq_getElem?_getD, List.getElem?_map, hx]; rfl
  · exact (prog_small (funB_of h).1).2.2 x.l (List.mem_map.2 ⟨x, List.mem_of_getElem? hx, rfl⟩)
set_option maxRecDepth 100000 in
set_option maxHeartbeats 2000000 in
theorem impl_CalledBy (S : HP) (w : World) [H : SepI w S] (A : Option Addr) (c : Nat) (bs : List Bd) [r : Rd S A (cBds bs)] [B : Bodies S bs] (f : Int) :
    Calls Try.prog 37 #[.agg #[.slice A bs.length c], .int .i64 f] w (IntsOk S (calledAns (bs.map (·.l)) f) (funB (bs.map (·.l)) f) w) := by
  obtain ⟨ok, hok⟩ : ∃ ok, funB (bs.map (·.l)) f = ok := ⟨_, rfl⟩
  have HOK := Hd.mk hok
  rw [hok]
  have hn := B.n
  clear hok
  cases ok
  · have hans : calledAns (bs.map (·.l)) f = [] := by unfold calledAns; rw [HOK.out]; rfl
    rw [hans]
    clear hans
    go_enter Try.func37, Try.ntmps37
    go_wp2_with fail
    refine (impl_isFunction _ _ _ _ bs _ _ HOK.out).mono ?_
    rintro e w1 ⟨rfl, HP⟩
    have HS1 := HP.sep
    have HE1 := HP.ext
    clear HP
    go_wp2
    go_ret2
    exact IntsOk.nil (v := .slice none 0 0) (Post.mk' (Ent.sep (S := _) inferInstance (Row.nil0 HS1 3 1)) inferInstance)
  · obtain ⟨hv, k, rfl, hk⟩ := funB_of HOK.out
    rw [List.length_map] at hk
    obtain ⟨x, hx⟩ := get_ex hk
    obtain ⟨hans, hxl⟩ := calledAns_at HOK.out hx
    rw [hans]
    obtain ⟨b0, off, rfl⟩ := r.addr H (j := k) (by rw [cBds_len]; exact hk)
    have c1 := r.cell (cBds_get hx)
    have rx := B.rd x (List.mem_of_getElem? hx)
    clear hans hv hx
    go_enter Try.func37, Try.ntmps37
    go_wp2_with fail
    refine (impl_isFunction _ _ _ _ bs _ _ HOK.out).mono ?_
    rintro e w1 ⟨rfl, HP⟩
    have HS1 := HP.sep
    have HE1 := HP.ext
    clear HP
    go_wp2_with fail
    refine (impl_called _ _ x.p x.c x.l hxl _ 2 [4, 5] (rk := rd_two 4 5) (by simp)).mono ?_
    rintro e w2 ⟨v2, rfl, HP⟩
    rw [kCD_eq] at HP
    have HS2 := HP.sep
    have HE2 := HP.ext
    clear HP
    go_wp2
    go_ret2
    exact IntsOk.of (v := v2) (Post.mk' (Ent.sep (S := _) inferInstance inferInstance) inferInstance)
set_option maxRecDepth 100000 in
set_option maxHeartbeats 2000000 in
theorem spec_CalledBy (S : HP) (w : World) [H : SepI w S] (A : Option Addr) (c : Nat) (bs : List Bd) [r : Rd S A (cBds bs)] [B : Bodies S bs] (f : Int) :
    Calls Try.prog 35 #[.agg #[.slice A bs.length c], .int .i64 f] w (IntsOk S (calledAns (bs.map (·.l)) f) (funB (bs.map (·.l)) f) w) := by
  obtain ⟨ok, hok⟩ : ∃ ok, funB (bs.map (·.l)) f = ok := ⟨_, rfl⟩
  have HOK := Hd.mk hok
  rw [hok]
  have hn := B.n
  obtain ⟨p, hp⟩ : ∃ p, progB (bs.map (·.l)) = p := ⟨_, rfl⟩
  obtain ⟨q, hq⟩ : ∃ q, inB f 0 ((bs.length : Int) - 1) = q := ⟨_, rfl⟩
  have HP0 := Hd.mk hp
  have HQ0 := Hd.mk hq
  have hpq : ok = (p && q) := by rw [← hok]; unfold funB; rw [List.length_map, hp, hq]
  clear hok hp hq
  cases p
  · subst hpq
    have hans : calledAns (bs.map (·.l)) f = [] := by unfold calledAns; rw [HOK.out]; rfl
    rw [hans]
    clear hans
    go_enter Try.func35, Try.ntmps35
    go_wp2_with fail
    refine (spec_l2Program _ _ _ _ bs).mono ?_
    rintro e w1 ⟨rfl, HP⟩
    rw [HP0.out]
    have HS1 := HP.sep
    have HE1 := HP.ext
    clear HP
    go_wp2
    go_ret2
    exact IntsOk.nil (v := .slice (some ⟨w1.heap.size, 0, none⟩) 0 0) (Post.mk' (Ent.sep (S := _) inferInstance (Row.lit0 (size := 1) (SepI.i_alloc w1 (.cells #[] 3 (0, 0)) _ _))) inferInstance)
  cases q
  · subst hpq
    have hans : calledAns (bs.map (·.l)) f = [] := by unfold calledAns; rw [HOK.out]; rfl
    rw [hans]
    clear hans
    go_enter Try.func35, Try.ntmps35
    go_wp2_with fail
    refine (spec_l2Program _ _ _ _ bs).mono ?_
    rintro e w1 ⟨rfl, HP⟩
    rw [HP0.out]
    have HS1 := HP.sep
    have HE1 := HP.ext
    clear HP
    go_wp2_with fail
    refine (spec_l2Function _ _ _ _ _ _ _ (by omega) HQ0.out).mono ?_
    rintro e w2 ⟨rfl, HP⟩
    have HS2 := HP.sep
    have HE2 := HP.ext
    clear HP
    go_wp2
    go_ret2
    exact IntsOk.nil (v := .slice (some ⟨w2.heap.size, 0, none⟩) 0 0) (Post.mk' (Ent.sep (S := _) inferInstance (Row.lit0 (size := 1) (SepI.i_alloc w2 (.cells #[] 3 (0, 0)) _ _))) inferInstance)
  · subst hpq
    obtain ⟨hv, k, rfl, hk⟩ := funB_of HOK.out
    rw [List.length_map] at hk
    obtain ⟨x, hx⟩ := get_ex hk
    obtain ⟨hans, hxl⟩ := calledAns_at HOK.out hx
    rw [hans]
    have HX := Hd.mk hx
    clear hans hv hx
    go_enter Try.func35, Try.ntmps35
    go_wp2_with fail
    refine (spec_l2Program _ _ _ _ bs).mono ?_
    rintro e w1 ⟨rfl, HP⟩
    rw [HP0.out]
    have HS1 := HP.sep
    have HE1 := HP.ext
    clear HP
    go_wp2_with fail
    refine (spec_l2Function _ _ _ _ _ _ _ (by omega) HQ0.out).mono ?_
    rintro e w2 ⟨rfl, HP⟩
    have HS2 := HP.sep
    have HE2 := HP.ext
    clear HP
    go_wp2_with fail
    refine (spec_l2Calls _ _ _ _ bs k x HX.out hxl).mono ?_
    rintro e w3 ⟨g, cc, rfl, HP⟩
    have HS3 := HP.sep
    have HE3 := HP.ext
    clear HP
    go_wp2
    go_ret2
    exact IntsOk.of (v := .slice (some ⟨g, 0, none⟩) (ascA (callN kCD x.l)).length cc) (Post.mk' (Ent.sep (S := _) inferInstance inferInstance) inferInstance)
end Go.Proofs.Ytnmbmdigiaokjaa
