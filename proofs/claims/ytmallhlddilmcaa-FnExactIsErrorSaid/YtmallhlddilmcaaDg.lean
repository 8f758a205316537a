/- DepthOf: the reference's way. Conditions: lengths within bounds. -/
import Derived.Test.YtmallhlddilmcaaDf
namespace Go.Proofs.Ytmallhlddilmcaa
open Go.RowKit SL
attribute [local go_sem] cell_blk frozen_blk lt_blk cell_at frozen_row lt_row
set_option linter.unusedVariables false
set_option linter.unusedSimpArgs false

theorem spec_most (a b : Int) (w : World) : Calls Try.prog 74 #[.int .i64 a, .int .i64 b] w fun e w' => e = .returned (.int .i64 (max a b)) ∧ w' = w := by
  by_cases h : b < a
  · go_enter Try.func74, Try.ntmps74
    go_wp2
    go_ret
    exact ⟨ret_i (by omega), rfl⟩
  · go_enter Try.func74, Try.ntmps74
    go_wp2
    go_ret
    exact ⟨ret_i (by omega), rfl⟩

set_option maxRecDepth 100000 in
set_option maxHeartbeats 8000000 in
theorem spec_DepthOf (S : HP) (w : World) [H : SepI w S] (A : Option Addr) (c : Nat) (es : List EN) [r : Rd S A (cENs es)] [B : Nodes S es] (a : Int) :
    Calls Try.prog 38 #[.agg #[.slice A es.length c], .int .i64 a] w fun e w' => e = two (.int .i64 (depthAns (es.map ecOf) a)) (.bool (hasB (es.map ecOf) [a])) ∧ Post w S w' := by
  obtain ⟨ok, hok⟩ : ∃ ok, hasB (es.map ecOf) [a] = ok := ⟨_, rfl⟩
  have HOK := Hd.mk hok
  rw [hok]
  have hn := B.n
  have HB := Hd.mk B
  clear hok
  cases ok
  · have hans : depthAns (es.map ecOf) a = 0 := by unfold depthAns; rw [HOK.out]; rfl
    rw [hans]
    clear hans
    go_enter Try.func38, Try.ntmps38
    go_wp2_with fail
    refine (spec_l6One _ _ _ _ es _ _ HOK.out).mono ?_
    rintro e w1 ⟨rfl, HP⟩
    have HS1 := HP.sep
    have HE1 := HP.ext
    clear HP
    go_wp2
    go_ret2
    exact ⟨rfl, Post.mk' (Ent.sep (S := _) inferInstance inferInstance) inferInstance⟩
  · obtain ⟨hv, k, rfl, hk⟩ := hasB_one HOK.out
    obtain ⟨v, hd⟩ := depths_at hk
    have hans : depthAns (es.map ecOf) k = v := by unfold depthAns; rw [HOK.out, if_pos rfl, Int.toNat_natCast, getD_of hd]
    rw [hans]
    have HV := Hd.mk hv
    have HD := Hd.mk hd
    rw [List.length_map] at hk
    have HSM := small_of hv
    rw [List.length_map] at HSM
    clear hans hv hd hn
    obtain ⟨n, hn⟩ : ∃ n, n = es.length := ⟨_, rfl⟩
    have HN := Hd.mk hn
    go_enter Try.func38, Try.ntmps38
    obtain ⟨be, hbe⟩ : ∃ be, be = w.heap.size := ⟨_, rfl⟩
    go_wp2_with fail
    refine (spec_l6One _ _ _ _ es _ _ HOK.out).mono ?_
    rintro e w1 ⟨rfl, HP⟩
    have HS1 := HP.sep
    have HE1 := HP.ext
    clear HP
    rw [← hbe] at HS1
    rw [← hbe, ← hn]
    rw [← hn] at HS1 HSM hk
    clear hbe hn
    go_wp2_with (refine ev_make rfl 62 _ _ rfl n rfl rfl 3 1 8 _ Try.underlying62 info_int rfl (by decide) (by decide) (by omega) ?_; rw [ints_zeros]; intro b w2 HS2 HE2)
    go_loopw [7] (fun i wr => ∃ (q : Nat), q ≤ n ∧ i = .int .i64 ((q : Int) - 1) ∧ ExtI w wr ∧
      SepI wr (Row 3 1 (.slice (some ⟨b, 0, none⟩) n n) n (ints (tabF n (depthE (es.map ecOf)) (n - q))) * (pts be (.cells #[.slice A n c] 40 (0, 0)) * S))) (fun i _ => (intOf i + 1).toNat)
    case atStart => exact ⟨n, Nat.le_refl _, by go_num, inferInstance, by rw [Nat.sub_self]; exact HS2⟩
    case round =>
      obtain ⟨q, hq, rfl, HX, HS⟩ := hrel
      by_cases hlt : 0 < q
      · obtain ⟨i, rfl⟩ : ∃ i, q = i + 1 := ⟨q - 1, by omega⟩
        have e1 : ((i + 1 : Nat) : Int) - 1 = i := by omega
        rw [e1]
        obtain ⟨known, hkn⟩ : ∃ known, known = tabF n (depthE (es.map ecOf)) (n - (i + 1)) := ⟨_, rfl⟩
        rw [← hkn] at HS
        have HKN := Hd.mk hkn
        have HLN : Hd (known.length = n) := ⟨by rw [hkn, tabF_len]⟩
        clear hkn e1
        obtain ⟨x, hx⟩ := get_ex (xs := es) (k := i) (by rw [← HN.out]; omega)
        obtain ⟨b0, off, rfl⟩ := r.addr H (j := i) (by rw [cENs_len, ← HN.out]; omega)
        have c1 := r.cell (cENs_get hx).1
        have c2 := r.cell (cENs_get hx).2.1
        have c3 := r.cell (cENs_get hx).2.2
        have rx := HB.out.rd x (List.mem_of_getElem? hx)
        have sx := HB.out.small x (List.mem_of_getElem? hx)
        obtain ⟨z, hz⟩ := get_ex (xs := known) (k := i) (by rw [HLN.out]; omega)
        have d1 : CellAt _ b _ _ := Row.cellAt (e := 3) (size := 1) (g := b) (n := n) (c := n) (F := pts be (.cells #[.slice (some ⟨b0, off, none⟩) n c] 40 (0, 0)) * S) (ints_get hz)
        have HXX := Hd.mk hx
        obtain ⟨m, hm⟩ : ∃ m, m = x.l.length := ⟨_, rfl⟩
        obtain ⟨p, hp⟩ : ∃ p, p = x.p := ⟨_, rfl⟩
        have HM := Hd.mk hm
        have HPX := Hd.mk hp
        rw [← hp] at rx
        rw [← hp, ← hm] at c3
        rw [← hm] at sx
        clear hx hz hm hp
        go_wp2
        go_loopw [8] (fun v wq => ∃ j : Nat, j ≤ m ∧ v = .int .i64 j ∧ ExtI w wq ∧
          SepI wq (Row 3 1 (.slice (some ⟨b, 0, none⟩) n n) n (ints (known.set i (dF known (x.l.take j) + 1))) * (pts be (.cells #[.slice (some ⟨b0, off, none⟩) n c] 40 (0, 0)) * S))) (fun v _ => m - (intOf v).toNat)
        case atStart => exact ⟨0, Nat.zero_le _, rfl, inferInstance, SepI.cast inferInstance (by rw [ints_set]; rfl)⟩
        case round =>
          obtain ⟨j, hj, rfl, HX2, HS3⟩ := hrel
          by_cases hlt2 : j < m
          · obtain ⟨y, hy⟩ := get_ex (xs := x.l) (k := j) (by rw [← HM.out]; exact hlt2)
            obtain ⟨u, rfl, hu1, hu2⟩ := part_at HV.out (k := i) (x := ecOf x) (by rw [List.getElem?_map, HXX.out]; rfl) hy
            rw [List.length_map, ← HN.out] at hu2
            obtain ⟨bp, op, rfl⟩ := rx.addr H (j := j) (by rw [ints_len, ← HM.out]; omega)
            have c4 := rx.cell (ints_get hy)
            obtain ⟨v2, hv2⟩ := get_ex (xs := known) (k := u) (by rw [HLN.out]; exact hu2)
            have hv3 : (known.set i (dF known (x.l.take j) + 1))[u]? = some v2 := by rw [List.getElem?_set_ne (by omega)]; exact hv2
            have hv4 : (known.set i (dF known (x.l.take j) + 1))[i]? = some (dF known (x.l.take j) + 1) := by rw [List.getElem?_set_self (by rw [HLN.out]; omega)]
            have d2 : CellAt _ b _ _ := Row.cellAt (e := 3) (size := 1) (g := b) (n := n) (c := n) (F := pts be (.cells #[.slice (some ⟨b0, off, none⟩) n c] 40 (0, 0)) * S) (ints_get hv3)
            have d3 : CellAt _ b _ _ := Row.cellAt (e := 3) (size := 1) (g := b) (n := n) (c := n) (F := pts be (.cells #[.slice (some ⟨b0, off, none⟩) n c] 40 (0, 0)) * S) (ints_get hv4)
            have HY := Hd.mk (dF_snoc (known := known) hy)
            have HG := Hd.mk (getD_of hv2)
            have hB : 0 ≤ v2 ∧ v2 ≤ 12 := by
              have hv2' := hv2
              rw [HKN.out] at hv2'
              have e1 : n = (es.map ecOf).length := by rw [List.length_map]; exact HN.out
              rw [e1] at hv2'
              have := depths_le _ _ _ _ hv2'
              omega
            have hW : IntKind.i64.wrap (v2 + 1) = v2 + 1 := IntWalk.i64_in _ (by omega)
            have hin : i < n := by omega
            clear hy hv2 hv3 hv4 d1
            go_wp2
            go_still_tail 21, (by kernel_rfl)
            still_call (spec_most _ _ _)
            repeat still_step
            refine wpStill_nil ?_
            change wpList _ _ _ _ _ wr.drew
            go_wp2
            go_roundw
            case rel => exact ⟨j + 1, by omega, by go_num, inferInstance, SepI.cast inferInstance (by
              rw [ints_set, List.set_set, HY.out, Int.toNat_natCast, HG.out])⟩
            case measure => simp [intOf]; omega
          · have : j = m := by omega
            subst this
            go_wp2
            go_roundw
            case rel => exact ⟨i, by omega, by go_num, inferInstance, SepI.cast inferInstance (by
              rw [tabF_next _ (by omega), ← HKN.out, HM.out, List.take_length]
              unfold depthE
              rw [List.getD_eq_getElem?_getD, List.getElem?_map, HXX.out]; rfl)⟩
            case measure => simp [intOf]
      · have : q = 0 := by omega
        subst this
        have d1 : CellAt _ b _ _ := Row.cellAt (e := 3) (size := 1) (g := b) (n := n) (c := n) (F := (pts be (.cells #[.slice A n c] 40 (0, 0)) * S)) (j := k) (v := .int .i64 v) (ints_get (by have := HD.out; unfold depths at this; rw [List.length_map, ← HN.out] at this; exact this))
        go_wp2
        go_ret2
        exact ⟨rfl, Post.mk' (Ent.sep (S := _) inferInstance inferInstance) inferInstance⟩
end Go.Proofs.Ytmallhlddilmcaa
