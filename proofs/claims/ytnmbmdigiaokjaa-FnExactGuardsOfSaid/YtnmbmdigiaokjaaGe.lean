/- GuardsOf by the program. Conditions: lengths within bounds. -/
import Derived.Test.YtnmbmdigiaokjaaGd
namespace Go.Proofs.Ytnmbmdigiaokjaa
open Go.RowKit SL
attribute [local go_sem] cell_blk frozen_blk lt_blk cell_at frozen_row lt_row
set_option linter.unusedVariables false
set_option linter.unusedSimpArgs false

theorem guardsAns_at {bs : List Bd} {k : Nat} {x : Bd} (h : funB (bs.map (·.l)) k = true) (hx : bs[k]? = some x) : guardsAns (bs.map (·.l)) k = (ascA (callN kDf x.l)).filter (fun g => !noRec (bs.map (·.l)) g) ∧ x.l.length ≤ 8 := by
  constructor
  · unfold guardsAns; rw [h, if_pos rfl, Int.toNat_natCast, List.getD_eq_getElem?_getD, List.getElem?_map, hx]; rfl
  · exact (prog_small (funB_of h).1).2.2 x.l (List.mem_map.2 ⟨x, List.mem_of_getElem? hx, rfl⟩)
set_option maxRecDepth 100000 in
set_option maxHeartbeats 2000000 in
theorem impl_GuardsOf (S : HP) (w : World) [H : SepI w S] (A : Option Addr) (c : Nat) (bs : List Bd) [r : Rd S A (cBds bs)] [B : Bodies S bs] (f : Int) :
    Calls Try.prog 43 #[.agg #[.slice A bs.length c], .int .i64 f] w (IntsOk S (guardsAns (bs.map (·.l)) f) (funB (bs.map (·.l)) f) w) := by
  obtain ⟨ok, hok⟩ : ∃ ok, funB (bs.map (·.l)) f = ok := ⟨_, rfl⟩
  have HOK := Hd.mk hok
  rw [hok]
  have hn := B.n
  clear hok
  cases ok
  · have hans : guardsAns (bs.map (·.l)) f = [] := by unfold guardsAns; rw [HOK.out]; rfl
    rw [hans]
    clear hans
    go_enter Try.func43, Try.ntmps43
    go_wp2_with fail
    refine (impl_isFunction _ _ _ _ bs _ _ HOK.out).mono ?_
    rintro e w1 ⟨rfl, HP⟩
    have HS1 := HP.sep
    have HE1 := HP.ext
    clear HP
    go_wp2
    go_ret2
    exact IntsOk.nil (v := .slice none 0 0) (Post.mk' (Ent.sep (S := _) inferInstance (Row.nil0 HS1 3 1)) inferInstance)
  · obtain ⟨hv, k, rfl, hk⟩ := funB_of HOK.out
    rw [List.length_map] at hk
    obtain ⟨x, hx⟩ := get_ex hk
    obtain ⟨hans, hxl⟩ := guardsAns_at HOK.out hx
    rw [hans]
    obtain ⟨m, hm⟩ : ∃ m, m = ascA (callN kDf x.l) := ⟨_, rfl⟩
    have hml : m.length ≤ 8 := by
      have h1 := ascA_len (callN kDf x.l)
      have h2 := callN_len kDf x.l
      rw [hm]; omega
    have HMF : Hd (∀ y ∈ m, ∃ j : Nat, y = j ∧ j < bs.length) := ⟨fun y hy => by
      have := called_fun hv (List.mem_map.2 ⟨x, List.mem_of_getElem? hx, rfl⟩) (kd := kDf) (fun k h => .inr (by simpa [kDf] using h)) (by rw [← hm]; exact hy)
      rwa [List.length_map] at this⟩
    obtain ⟨L, hL⟩ : ∃ L, L = bs.map (·.l) := ⟨_, rfl⟩
    have HL := Hd.mk hL
    have HM := Hd.mk hm
    have HB := Hd.mk B
    rw [← hm, ← hL]
    obtain ⟨b0, off, rfl⟩ := r.addr H (j := k) (by rw [cBds_len]; exact hk)
    have c1 := r.cell (cBds_get hx)
    have rx := B.rd x (List.mem_of_getElem? hx)
    have hmf : ∀ (fn : Fn) (first cap : Array Value) (w : World), (Instr.makeFunc fn first cap).run Try.prog w = .ok (.func fn first cap) w := fun _ _ _ _ => rfl
    clear hans hv hx hm hL
    go_enter Try.func43, Try.ntmps43
    obtain ⟨be, hbe⟩ : ∃ be, be = w.heap.size := ⟨_, rfl⟩
    go_wp2_with fail
    refine (impl_isFunction _ _ _ _ bs _ _ HOK.out).mono ?_
    rintro e w1 ⟨rfl, HP⟩
    have HS1 := HP.sep
    have HE1 := HP.ext
    clear HP
    rw [← hbe] at HS1 ⊢
    clear hbe
    go_wp2_with fail
    refine (impl_called _ _ x.p x.c x.l hxl _ 1 [5] (rk := rd_one 5) (by simp)).mono ?_
    rintro e w2 ⟨v2, rfl, HP⟩
    rw [kDf_eq, ← HM.out] at HP
    have HS2 := HP.sep
    have HE2 := HP.ext
    clear HP
    obtain ⟨A2, c2, rfl, hc1, hc2⟩ := Row.form HS2
    have HS3 : SepI w2 (Row 3 1 (.slice A2 m.length c2) m.length (ints m) * (pts be (.cells #[.slice (some ⟨b0, off, none⟩) bs.length c] 54 (0, 0)) * S)) := Ent.sep (S := _) inferInstance HS2
    have HPR : Hd (∀ (v : Value) (n : Nat) (cs : List Value), ∀ y ∈ m, Pred (Row 3 1 v n cs * (pts be (.cells #[.slice (some ⟨b0, off, none⟩) bs.length c] 54 (0, 0)) * S)) 83 #[.pointer (some ⟨be, 0, none⟩)] (intV y) (noRec L y)) := ⟨fun v n cs y hy W HW => by
      obtain ⟨j, rfl, hj⟩ := HMF.out y hy
      obtain ⟨z, hz⟩ := get_ex hj
      have rz := HB.out.rd z (List.mem_of_getElem? hz)
      rw [HL.out]
      exact impl_Gu1 _ W be j (some ⟨b0, off, none⟩) c bs z hz hn (HB.out.small z (List.mem_of_getElem? hz))⟩
    clear HS2
    go_wp2_with fail
    refine (deleteInt _ w2 A2 c2 m (H := HS3) (by omega) _ _ (noRec L) enters_gu HPR.out).mono ?_
    rintro e w3 ⟨v3, rfl, HP⟩
    have HS4 := HP.sep
    have HE4 := HP.ext
    clear HP
    go_wp2
    go_ret2
    exact IntsOk.of (v := v3) (Post.mk' (Ent.sep (S := _) inferInstance inferInstance) inferInstance)
end Go.Proofs.Ytnmbmdigiaokjaa
