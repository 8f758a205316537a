/- LeavesOf by the program. Conditions: lengths within bounds. -/
import Derived.Test.YtnmbmdigiaokjaaLe
import Derived.Test.YtnmbmdigiaokjaaSo
namespace Go.Proofs.Ytnmbmdigiaokjaa
open Go.RowKit SL
attribute [local go_sem] cell_blk frozen_blk lt_blk cell_at frozen_row lt_row
set_option linter.unusedVariables false
set_option linter.unusedSimpArgs false

set_option maxRecDepth 100000 in
set_option maxHeartbeats 2000000 in
theorem impl_LeavesOf (S : HP) (w : World) [H : SepI w S] (A : Option Addr) (c : Nat) (es : List EN) [r : Rd S A (cENs es)] [B : Nodes S es] (hpc : PcOk es) (a : Int) :
    Calls Try.prog 31 #[.agg #[.slice A es.length c], .int .i64 a] w (IntsOk S (leavesAns (es.map ecOf) a) (hasB (es.map ecOf) [a]) w) := by
  have hmf : ∀ (fn : Fn) (first cap : Array Value) (w : World), (Instr.makeFunc fn first cap).run Try.prog w = .ok (.func fn first cap) w := fun _ _ _ _ => rfl
  obtain ⟨ok, hok⟩ : ∃ ok, hasB (es.map ecOf) [a] = ok := ⟨_, rfl⟩
  have HOK := Hd.mk hok
  rw [hok]
  have hn := B.n
  have HB := Hd.mk B
  clear hok hpc
  cases ok
  · have hans : leavesAns (es.map ecOf) a = [] := by unfold leavesAns; rw [HOK.out]; rfl
    rw [hans]
    clear hans
    go_enter Try.func31, Try.ntmps31
    go_wp2_with fail
    refine (impl_has _ _ _ _ es _ 1 [a] (rl := rd_one a) (by simp) _ HOK.out).mono ?_
    rintro e w1 ⟨rfl, HP⟩
    have HS1 := HP.sep
    have HE1 := HP.ext
    clear HP
    go_wp2
    go_ret2
    exact IntsOk.nil (v := .slice none 0 0) (Post.mk' (Ent.sep (S := _) inferInstance (Row.nil0 HS1 3 1)) inferInstance)
  · obtain ⟨hv, k, rfl, hk⟩ := hasB_one HOK.out
    have hkm := hk
    rw [List.length_map] at hk
    have hsm := small_of hv
    obtain ⟨ES, hES⟩ : ∃ ES, ES = es.map ecOf := ⟨_, rfl⟩
    have HES := Hd.mk hES
    have HV := Hd.mk hv
    have HK := Hd.mk hk
    obtain ⟨fl, hfl⟩ : ∃ fl, fl = found (es.map ecOf) k := ⟨_, rfl⟩
    have HFL : Hd (∀ u ∈ fl, u < es.length) := ⟨fun u hu => by
      have := ((mem_found hv hkm u).1 (by rw [← hfl]; exact hu)).lt hv hkm
      rwa [List.length_map] at this⟩
    have hfn : fl.length ≤ 12 := by
      have := (foundF_FI hv (es.map ecOf).length k [] hkm ⟨by simp, fun x hx => by cases hx⟩).len
      rw [hfl]; unfold found; rw [List.length_map] at this hsm; rw [List.length_map]; omega
    have HFD := Hd.mk hfl
    obtain ⟨ans, hans⟩ : ∃ ans, leavesAns (es.map ecOf) k = ans := ⟨_, rfl⟩
    obtain ⟨m, hm⟩ : ∃ m, m = (nats fl).filter (fun x => !stemB ES x.toNat) := ⟨_, rfl⟩
    have HA : Hd (ascA m = ans) := ⟨by
      rw [hm, ← hans, hfl, hES, leaves_asc hv hkm]
      unfold leavesAns
      rw [HOK.out, if_pos rfl, Int.toNat_natCast]⟩
    have hml : m.length ≤ 12 := by
      have := List.length_filter_le (fun x : Int => !stemB ES x.toNat) (nats fl)
      rw [hm]; rw [nats_len] at this; omega
    have HM := Hd.mk hm
    have HFN : Hd (fl.length ≤ 12) := ⟨hfn⟩
    have HML : Hd (m.length ≤ 12) := ⟨hml⟩
    have hs2 : ∀ x ∈ es, x.l.length ≤ 1048576 := B.small
    have HS2' := Hd.mk hs2
    rw [hans]
    clear hkm hk hv hfl hES hans hm hfn hml hs2
    go_enter Try.func31, Try.ntmps31
    obtain ⟨be, hbe⟩ : ∃ be, be = w.heap.size := ⟨_, rfl⟩
    go_wp2_with fail
    refine (impl_has _ _ _ _ es _ 1 [(k : Int)] (rl := rd_one (k : Int)) (by simp) _ HOK.out).mono ?_
    rintro e w1 ⟨rfl, HP⟩
    have HS1 := HP.sep
    have HE1 := HP.ext
    clear HP
    rw [← hbe] at HS1 ⊢
    clear hbe
    go_wp2_with fail
    refine (impl_found _ c es HV.out (es.map ecOf).length _ _ (.slice none 0 0) [] k (Row.nil0 HS1 3 1) inferInstance inferInstance (by rw [List.length_map]; omega) HK.out ⟨by simp, fun x hx => by cases hx⟩).mono ?_
    rintro e w2 ⟨v2, rfl, HP⟩
    rw [show foundF (es.map ecOf) (es.map ecOf).length [] k = fl from HFD.out.symm] at HP
    have HS2 := HP.sep
    have HE2 := HP.ext
    clear HP HS1
    obtain ⟨A2, c2, rfl, hc1, hc2⟩ := Row.form HS2
    have HPR : Hd (∀ (v : Value) (n : Nat) (cs : List Value), ∀ x ∈ nats fl, Pred (Row 3 1 v n cs * (pts (be + 1) (.cells #[.int .i64 k] 3 (0, 0)) * (pts be (.cells #[.slice A es.length c] 30 (0, 0)) * S))) 68 #[.pointer (some ⟨be, 0, none⟩)] (intV x) (stemB ES x.toNat)) := ⟨fun v n cs x hx W HW => by
      unfold nats at hx
      obtain ⟨j, hj, rfl⟩ := List.mem_map.1 hx
      obtain ⟨y, hy⟩ := get_ex (xs := es) (k := j) (HFL.out j hj)
      rw [Int.toNat_natCast, HES.out]
      exact impl_Lv1 _ W be j A c es y hy hn (HS2'.out y (List.mem_of_getElem? hy))⟩
    go_wp2_with fail
    refine (deleteInt _ w2 A2 c2 (nats fl) (by rw [nats_len]; have := HFN.out; omega) _ _ (fun x => stemB ES x.toNat) enters_lv HPR.out).mono ?_
    rintro e w3 ⟨v3, rfl, HP⟩
    rw [← HM.out] at HP
    have HS3 := HP.sep
    have HE3 := HP.ext
    clear HP HS2
    obtain ⟨A3, c3, rfl, hc3, hc4⟩ := Row.form HS3
    go_wp2_with fail
    refine (ascendingI _ w3 A3 c3 m HS3 (by have := HML.out; omega)).mono ?_
    rintro e w4 ⟨v4, rfl, HP⟩
    rw [HA.out] at HP
    have HS4 := HP.sep
    have HE4 := HP.ext
    clear HP HS3
    go_wp2
    go_ret2
    exact IntsOk.of (v := v4) (Post.mk' (Ent.sep (S := _) inferInstance inferInstance) inferInstance)
end Go.Proofs.Ytnmbmdigiaokjaa
