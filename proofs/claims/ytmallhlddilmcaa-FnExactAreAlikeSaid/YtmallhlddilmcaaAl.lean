/- AreAlike: the program's closure of an error's class. Conditions: lengths within bounds. -/
import Derived.Test.YtmallhlddilmcaaAk
namespace Go.Proofs.Ytmallhlddilmcaa
open Go.RowKit SL
attribute [local go_sem] cell_blk frozen_blk lt_blk cell_at frozen_row lt_row
set_option linter.unusedVariables false
set_option linter.unusedSimpArgs false

theorem firstK_hit {p : Nat → Bool} {k j : Nat} (h : k < j) (hp : p j = true) : firstK p k (j + 1) = some j := by rw [firstK, if_pos h, if_pos hp]
theorem firstK_miss {p : Nat → Bool} {k j : Nat} (h : k < j) (hp : p j = false) : firstK p k (j + 1) = firstK p k j := by rw [firstK, if_pos h, hp]; rfl
theorem firstK_none {p : Nat → Bool} {k : Nat} : firstK p k (k + 1) = none := by rw [firstK, if_neg (Nat.lt_irrefl _)]
/-- The slot's number: firstK from there. -/
theorem node_lt {es : List EN} {j : Nat} {y : EN} (h : es[j]? = some y) : j < es.length := (List.getElem?_eq_some_iff.1 h).1

set_option maxRecDepth 100000 in
set_option maxHeartbeats 8000000 in
theorem impl_Alike1 (S : HP) (w : World) [H : SepI w S] (be : Nat) (A : Option Addr) (c : Nat) (es : List EN) (b k : Nat) (known : List Int) (hv : errsB (es.map ecOf) = true) [r : Rd S A (cENs es)] [B : Nodes S es]
    [HasBlk S be (.cells #[.slice A es.length c] 40 (0, 0))] [rk : Rd S (some ⟨b, 0, none⟩) (ints known)] (hk : k < es.length) (hl : known.length = es.length) :
    Calls Try.prog 83 #[.int .i64 k, .slice (some ⟨b, 0, none⟩) es.length es.length, .pointer (some ⟨be, 0, none⟩)] w fun e w' => e = .returned (.int .i64 (clsE (es.map ecOf) k known)) ∧ Post w S w' := by
  have hmf : ∀ (fn : Fn) (first cap : Array Value) (w : World), (Instr.makeFunc fn first cap).run Try.prog w = .ok (.func fn first cap) w := fun _ _ _ _ => rfl
  obtain ⟨x, hx⟩ := get_ex (xs := es) (k := k) hk
  obtain ⟨n, hn⟩ : ∃ n, n = es.length := ⟨_, rfl⟩
  obtain ⟨m, hm⟩ : ∃ m, m = x.l.length := ⟨_, rfl⟩
  obtain ⟨p, hp⟩ : ∃ p : Nat → Bool, p = fun j => alikeB known (ecOf x) (nodeAt (es.map ecOf) j) := ⟨_, rfl⟩
  have hd : clsE (es.map ecOf) k known = clsV known k (firstK p k n) := by unfold clsE; rw [nodeAt_of hx, hp, List.length_map, hn]
  obtain ⟨ans, hans⟩ : ∃ ans, clsE (es.map ecOf) k known = ans := ⟨_, rfl⟩
  rw [hans] at hd
  rw [hans, ← hn]
  have HA := Hd.mk hd
  obtain ⟨b0, off, rfl⟩ := r.addr H (j := k) (by rw [cENs_len]; omega)
  have c1 := r.cell (cENs_get hx).1
  have c2 := r.cell (cENs_get hx).2.1
  have c3 := r.cell (cENs_get hx).2.2
  have rx := B.rd x (List.mem_of_getElem? hx)
  have sx := B.small x (List.mem_of_getElem? hx)
  have HB := Hd.mk B
  have HV := Hd.mk hv
  have HX := Hd.mk hx
  have HL := Hd.mk hl
  have HN := Hd.mk hn
  have HM := Hd.mk hm
  have HPP := Hd.mk hp
  have hs := small_of hv
  rw [List.length_map, ← hn] at hs
  rw [← hn] at hk
  rw [← hm] at c3 sx
  clear B hv hx hl hm hd hans hp
  rename HasBlk _ be _ => hbk
  rw [← hn] at hbk
  clear hn
  obtain ⟨px, hpx⟩ : ∃ px, px = x.p := ⟨_, rfl⟩
  rw [← hpx] at c3 rx
  have HPX := Hd.mk hpx
  clear hpx
  go_enter Try.func83, Try.ntmps83
  obtain ⟨N, hN⟩ : ∃ N, N = w.heap.size := ⟨_, rfl⟩
  have HNN := Hd.mk hN
  go_wp2
  rw [← hN]
  clear hN
  go_loopw [7] (fun i wr => ∃ j : Nat, k < j ∧ j ≤ n ∧ i = .int .i64 ((j : Int) - 1) ∧ Hd (firstK p k n = firstK p k j) ∧ ExtI w wr ∧
    SepI wr (pts (N + 1) (.cells #[.int .i64 x.k, .int .i64 x.c, .slice px m x.pc] 76 (0, 0)) * (pts N (.cells #[.slice (some ⟨b, 0, none⟩) n n] 62 (0, 0)) * S))) (fun i _ => (intOf i).toNat)
  case atStart => exact ⟨n, hk, Nat.le_refl _, by go_num, ⟨rfl⟩, inferInstance, by rw [HNN.out]; infer_instance⟩
  case round =>
    obtain ⟨j, hkj, hj, rfl, HF, HE, HS⟩ := hrel
    obtain ⟨i, rfl⟩ : ∃ i, j = i + 1 := ⟨j - 1, by omega⟩
    have e1 : ((i + 1 : Nat) : Int) - 1 = i := by omega
    rw [e1]
    clear e1
    by_cases hlt : k < i
    · obtain ⟨y, hy⟩ := get_ex (xs := es) (k := i) (by rw [← HN.out]; omega)
      have hin : i < n := by omega
      have d1 := r.cell (cENs_get hy).1
      have d2 := r.cell (cENs_get hy).2.1
      have d3 := r.cell (cENs_get hy).2.2
      have ry := HB.out.rd y (List.mem_of_getElem? hy)
      have sy := HB.out.small y (List.mem_of_getElem? hy)
      obtain ⟨v, hv⟩ := get_ex (xs := known) (k := i) (by rw [HL.out, ← HN.out]; exact hin)
      have c5 := rk.cell (ints_get hv)
      rw [Nat.zero_add] at c5
      have hpi : p i = alikeB known (ecOf x) (ecOf y) := by rw [HPP.out]; show alikeB known (ecOf x) (nodeAt (es.map ecOf) i) = _; rw [nodeAt_of hy]
      have hpv : p i = (x.k == y.k && (x.c == y.c && eq2 (eqAt known) x.l y.l)) := hpi
      have HG := Hd.mk (getD_of hv)
      have HY := Hd.mk hy
      obtain ⟨my, hmy⟩ : ∃ my, my = y.l.length := ⟨_, rfl⟩
      obtain ⟨py, hpy⟩ : ∃ py, py = y.p := ⟨_, rfl⟩
      have HMY := Hd.mk hmy
      rw [← hpy, ← hmy] at d3
      rw [← hmy] at sy
      rw [← hpy] at ry
      clear hv hpi hy hmy hpy
      cases hbk : (x.k == y.k)
      · rw [hbk, Bool.false_and] at hpv
        have HQ := Hd.mk hpv
        clear hpv
        go_wp2
        go_roundw
        case rel => exact ⟨i, by omega, by omega, by go_num, ⟨by rw [HF.out, firstK_miss (by omega) HQ.out]⟩, inferInstance, Ent.sep (S := _) inferInstance inferInstance⟩
        case measure => simp [intOf]; omega
      cases hbc : (x.c == y.c)
      · rw [hbk, hbc, Bool.true_and, Bool.false_and] at hpv
        have HQ := Hd.mk hpv
        clear hpv
        go_wp2
        go_roundw
        case rel => exact ⟨i, by omega, by omega, by go_num, ⟨by rw [HF.out, firstK_miss (by omega) HQ.out]⟩, inferInstance, Ent.sep (S := _) inferInstance inferInstance⟩
        case measure => simp [intOf]; omega
      rw [hbk, hbc, Bool.true_and, Bool.true_and] at hpv
      cases hbe : eq2 (eqAt known) x.l y.l
      all_goals
        rw [hbe] at hpv
        have HBE := Hd.mk hbe
        have HQ := Hd.mk hpv
        clear hpv hbe
        go_wp2_with fail
        rw [HM.out, HMY.out]
        refine (equalFunc _ _ px py x.pc y.pc x.l y.l (by rw [← HM.out]; exact sx) (by rw [← HMY.out]; exact sy) _ _ (eqAt known) enters_alike2 (fun u hu u' hu' W HW => by
          obtain ⟨j1, hj1⟩ := List.mem_iff_getElem?.1 hu
          obtain ⟨j2, hj2⟩ := List.mem_iff_getElem?.1 hu'
          obtain ⟨q1, rfl, _, hq1⟩ := part_at HV.out (k := k) (x := ecOf x) (by rw [List.getElem?_map, HX.out]; rfl) hj1
          obtain ⟨q2, rfl, _, hq2⟩ := part_at HV.out (k := i) (x := ecOf y) (by rw [List.getElem?_map, HY.out]; rfl) hj2
          rw [List.length_map, ← HN.out] at hq1 hq2
          exact impl_Alike11 _ W N b n known q1 q2 (by omega) (by rw [HL.out, HN.out]) hq1 hq2)).mono ?_
        rintro e w3 ⟨rfl, HP⟩
        have HS3 := HP.sep
        have HE3 := HP.ext
        clear HP
        rw [HBE.out]
      · rw [← HM.out, ← HMY.out]
        go_wp2
        go_roundw
        case rel => exact ⟨i, by omega, by omega, by go_num, ⟨by rw [HF.out, firstK_miss (by omega) HQ.out]⟩, inferInstance, Ent.sep (S := _) inferInstance inferInstance⟩
        case measure => simp [intOf]; omega
      · rw [← HM.out, ← HMY.out]
        go_wp2
        go_ret
        exact ⟨ret_i (by rw [HA.out, HF.out, firstK_hit hlt HQ.out]; exact HG.out.symm), Post.mk' (Ent.sep (S := _) inferInstance inferInstance) inferInstance⟩
    · have : i = k := by omega
      subst this
      go_wp2
      go_ret
      exact ⟨ret_i (by rw [HA.out, HF.out, firstK_none]; rfl), Post.mk' (Ent.sep (S := _) inferInstance inferInstance) inferInstance⟩
end Go.Proofs.Ytmallhlddilmcaa
