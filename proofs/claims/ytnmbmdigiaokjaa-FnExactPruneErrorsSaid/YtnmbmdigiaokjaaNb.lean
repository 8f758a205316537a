/- PruneErrors by the program. Conditions: lengths within bounds. -/
import Derived.Test.YtnmbmdigiaokjaaNa
import Derived.Test.YtnmbmdigiaokjaaDr
namespace Go.Proofs.Ytnmbmdigiaokjaa
open Go.RowKit SL
attribute [local go_sem] cell_blk frozen_blk lt_blk cell_at frozen_row lt_row
set_option linter.unusedVariables false
set_option linter.unusedSimpArgs false

theorem indexL (S : HP) (w : World) [H : SepI w S] (A : Option Addr) (c n : Nat) (l : List Int) [r : Rd S A (ints l)] (hl : n = l.length) (hn : n ≤ 1048576) (x v : Int) (hv : idxI l x = v) :
    Calls Try.prog 69 #[.slice A n c, .int .i64 x] w fun e w' => e = .returned (.int .i64 v) ∧ Post w S w' := by
  subst hl
  subst hv
  exact indexI S w A c l hn x
theorem pruneF_snoc (es : List EC) (f : Nat → Bool) (K : List Nat) (k : Nat) : pruneF es f (K ++ [k]) = pruneF es f K ++ [pruneOne f (es.getD k (0, 0, []))] := by unfold pruneF; rw [List.map_append]; rfl
set_option maxRecDepth 100000 in
set_option maxHeartbeats 4000000 in
theorem impl_PruneErrors (S : HP) (w : World) [H : SepI w S] (A : Option Addr) (c : Nat) (es : List EN) [r : Rd S A (cENs es)] [B : Nodes S es] (hpc : PcOk es) (a : Int) :
    Calls Try.prog 33 #[.agg #[.slice A es.length c], .int .i64 a] w (ErrOk S (pruneAns (es.map ecOf) a) (hasB (es.map ecOf) [a]) w) := by
  obtain ⟨ok, hok⟩ : ∃ ok, hasB (es.map ecOf) [a] = ok := ⟨_, rfl⟩
  have HOK := Hd.mk hok
  rw [hok]
  have hn := B.n
  have HB := Hd.mk B
  clear hok hpc
  cases ok
  · rw [prune_no HOK.out]
    go_enter Try.func33, Try.ntmps33
    go_wp2_with fail
    refine (impl_has _ _ _ _ es _ 1 [a] (rl := rd_one a) (by simp) _ HOK.out).mono ?_
    rintro e w1 ⟨rfl, HP⟩
    have HS1 := HP.sep
    have HE1 := HP.ext
    clear HP
    go_wp2
    refine bodyPost_ret (v := .tuple #[.agg #[.slice none 0 0], .bool false]) (by simp [results, Try.results33, go_sem]) rfl ?_
    exact ErrOk.nil (Ent.sep (S := _) inferInstance inferInstance) inferInstance
  · obtain ⟨hv, k, rfl, hk⟩ := hasB_one HOK.out
    rw [prune_yes HOK.out]
    have hkm := hk
    rw [List.length_map] at hk
    have hsm := small_of hv
    rw [List.length_map] at hsm
    obtain ⟨f, hf⟩ : ∃ f, f = keptB (es.map ecOf) k := ⟨_, rfl⟩
    obtain ⟨KL, hKL⟩ : ∃ KL, KL = keepN f (es.map ecOf).length := ⟨_, rfl⟩
    obtain ⟨lk, hlk⟩ : ∃ lk, lk = (nats KL).length := ⟨_, rfl⟩
    have HLK := Hd.mk hlk
    have hlk12 : lk ≤ 12 := by rw [hlk, nats_len, hKL]; have := rankN_le f (es.map ecOf).length; unfold rankN at this; rw [List.length_map] at *; omega
    obtain ⟨fl, hfl⟩ : ∃ fl, fl = found (es.map ecOf) k := ⟨_, rfl⟩
    have hfn : fl.length ≤ 12 := by
      have := (foundF_FI hv (es.map ecOf).length k [] hkm ⟨by simp, fun x hx => by cases hx⟩).len
      rw [hfl]; unfold found; rw [List.length_map] at this; rw [List.length_map]; omega
    have HFN : Hd (fl.length ≤ 12) := ⟨hfn⟩
    have HFD := Hd.mk hfl
    have HKA : Hd (ascA (nats fl) = nats KL) := ⟨by rw [hfl, kept_asc hv hkm, hKL, hf]⟩
    have HKM : Hd (∀ (i : Nat) (u : Nat), KL[i]? = some u → u < es.length ∧ f u = true) := ⟨fun i u hu => by
      have := (keepN_mem f _ u).1 (by rw [← hKL]; exact List.mem_of_getElem? hu)
      rwa [List.length_map] at this⟩
    have HIX : Hd (∀ (u : Nat), u < es.length → f u = true → idxI (nats KL) u = (rankN f u : Nat)) := ⟨fun u h1 h2 => by rw [hKL]; exact idx_rank f (by rw [List.length_map]; exact h1) h2⟩
    have HPT : Hd (∀ (u : Nat) (x : EN) (j : Nat) (y : Int), f u = true → es[u]? = some x → x.l[j]? = some y → ∃ q : Nat, y = q ∧ q < es.length ∧ f q = true) := ⟨fun u x j y h1 hx hy => by
      have := kept_part hv hkm (k := u) (by rw [← hf]; exact h1) (x := ecOf x) (by rw [List.getElem?_map, hx]; rfl) (j := j) (y := y) hy
      rw [List.length_map, ← hf] at this
      exact this⟩
    have HRL : Hd (∀ u, rankN f u ≤ u) := ⟨rankN_le f⟩
    have HSM := Hd.mk (errs_bounds hv).2
    rw [← hf, ← hKL]
    have HV := Hd.mk hv
    have HK := Hd.mk hk
    obtain ⟨n, hnn⟩ : ∃ n, n = es.length := ⟨_, rfl⟩
    have HN := Hd.mk hnn
    have HR := Hd.mk r
    obtain ⟨b0, off, rfl⟩ := r.addr H (j := 0) (by rw [cENs_len]; omega)
    clear hv hk hkm hf hKL hlk hfl hfn hnn
    obtain ⟨g2, hg2⟩ : ∃ g2, g2 = w.heap.size := ⟨_, rfl⟩
    obtain ⟨g4, hg4⟩ : ∃ g4, g4 = g2 + 1 := ⟨_, rfl⟩
    go_enter Try.func33, Try.ntmps33
    go_wp2_with fail
    refine (impl_has _ _ _ _ es _ 1 [(k : Int)] (rl := rd_one (k : Int)) (by simp) _ HOK.out).mono ?_
    rintro e w1 ⟨rfl, HP⟩
    rw [← hg2, ← hg4] at HP ⊢
    have HS1 := HP.sep
    have HE1 := HP.ext
    clear HP hg2 hg4
    go_wp2_with fail
    refine (impl_found _ c es HV.out (es.map ecOf).length _ _ (.slice none 0 0) [] k (Row.nil0 HS1 3 1) inferInstance inferInstance (by rw [List.length_map]; omega) HK.out ⟨by simp, fun x hx => by cases hx⟩).mono ?_
    rintro e w2 ⟨v2, rfl, HP⟩
    rw [show foundF (es.map ecOf) (es.map ecOf).length [] k = fl from HFD.out.symm] at HP
    have HS2 := HP.sep
    have HE2 := HP.ext
    clear HP HS1
    obtain ⟨A2, c2, rfl, hc1, hc2⟩ := Row.form HS2
    go_wp2_with fail
    refine (ascendingI _ w2 A2 c2 (nats fl) HS2 (by rw [nats_len]; have := HFN.out; omega)).mono ?_
    rintro e w3 ⟨v3, rfl, HP⟩
    rw [HKA.out, ← HLK.out] at HP
    have HS3 := HP.sep
    have HE3 := HP.ext
    clear HP HS2
    obtain ⟨AK, ck, rfl, hck, hck'⟩ := Row.form HS3
    obtain ⟨g6, hg6⟩ : ∃ g6, g6 = w3.heap.size := ⟨_, rfl⟩
    go_wp2
    rw [← hg6, ← HN.out]
    have H2 : SepI (w3.alloc (.cells #[.slice none 0 0] 30 (0, 0))) (pts g6 (.cells #[(.slice none 0 0)] 30 (0, 0)) * (Row 70 3 (.slice none 0 0) 0 (cENs ([] : List EN)) * (stars (([] : List EN).map OwnI) * (Row 3 1 (.slice AK lk ck) lk (ints (nats KL)) * (pts g4 (.cells #[.slice none 0 0] 30 (0, 0)) * (pts g2 (.cells #[.slice (some ⟨b0, off, none⟩) n c] 30 (0, 0)) * S)))))) := by
      have h1 : SepI (w3.alloc (.cells #[.slice none 0 0] 30 (0, 0))) (pts g6 (.cells #[(.slice none 0 0)] 30 (0, 0)) * (Row 3 1 (.slice AK lk ck) lk (ints (nats KL)) * (pts g4 (.cells #[.slice none 0 0] 30 (0, 0)) * (pts g2 (.cells #[.slice (some ⟨b0, off, none⟩) n c] 30 (0, 0)) * S)))) := by
        rw [hg6, HN.out]
        exact Ent.sep (S := _) inferInstance inferInstance
      have h3 := OwnE.nil h1
      unfold OwnE at h3
      rw [star_assoc] at h3
      refine SepI.cast h3 ?_
      show Row 70 3 (.slice none 0 0) 0 [] * _ = _
      ac_rfl
    clear hg6 HS3
    go_loopw [27] (fun v27 wr => ∃ (i : Nat) (vv : Value) (d : List EN), i ≤ lk ∧ v27 = .int .i64 i ∧ ExtI w wr ∧ Hd (d.length = i) ∧ Hd (d.map ecOf = pruneF (es.map ecOf) f (KL.take i)) ∧ SepI wr (pts g6 (.cells #[vv] 30 (0, 0)) * (Row 70 3 vv d.length (cENs d) * (stars (d.map OwnI) * (Row 3 1 (.slice AK lk ck) lk (ints (nats KL)) * (pts g4 (.cells #[.slice none 0 0] 30 (0, 0)) * (pts g2 (.cells #[.slice (some ⟨b0, off, none⟩) n c] 30 (0, 0)) * S))))))) (fun v _ => lk - (intOf v).toNat)
    case atStart => exact ⟨0, .slice none 0 0, [], by omega, rfl, inferInstance, ⟨rfl⟩, ⟨rfl⟩, H2⟩
    case round =>
      obtain ⟨i, vv, d, hi, rfl, HX4, HDL, HDM, HS4⟩ := hrel
      clear H2
      obtain ⟨A3, c3, rfl, hc3, hc3'⟩ := Row.form (SepI.cast HS4 (star_left _ _ _))
      obtain ⟨m, hm⟩ : ∃ m, m = d.length := ⟨_, rfl⟩
      have HM := Hd.mk hm
      have hm12 : m ≤ 12 := by rw [hm, HDL.out]; omega
      rw [← hm] at HS4 hc3
      clear hm
      by_cases hlt : i < lk
      · obtain ⟨u, hu⟩ := get_ex (xs := KL) (k := i) (by rw [← nats_len, ← HLK.out]; exact hlt)
        obtain ⟨hun, huf⟩ := HKM.out i u hu
        obtain ⟨x, hx⟩ := get_ex (xs := es) (k := u) hun
        have hun' : u < n := by rw [HN.out]; exact hun
        obtain ⟨hx12, _⟩ := HSM.out x (List.mem_of_getElem? hx)
        have hxr := HB.out.rd x (List.mem_of_getElem? hx)
        have hnu : (nats KL)[i]? = some (u : Int) := by unfold nats; rw [List.getElem?_map, hu]; rfl
        obtain ⟨gk, rfl⟩ := Row.addr (A := AK) (e := 3) (size := 1) (n := lk) (c := ck) (cs := ints (nats KL)) (SepI.pick HS4 inferInstance) (by omega)
        have e0 : CellAt _ gk i _ := Row.cellAt (e := 3) (size := 1) (g := gk) (n := lk) (c := ck) (F := pts g4 (.cells #[.slice none 0 0] 30 (0, 0)) * (pts g2 (.cells #[.slice (some ⟨b0, off, none⟩) n c] 30 (0, 0)) * S)) (ints_get hnu)
        have e1 : CellAt S b0 (off + u * 3) _ := HR.out.cell (cENs_get hx).1
        have e2 : CellAt S b0 (off + u * 3 + 1) _ := HR.out.cell (cENs_get hx).2.1
        have e3 : CellAt S b0 (off + u * 3 + 2) _ := HR.out.cell (cENs_get hx).2.2
        have hxp := HPT.out u x
        have HXE : Hd ((es.map ecOf).getD u (0, 0, []) = ecOf x) := ⟨by rw [List.getD_eq_getElem?_getD, List.getElem?_map, hx]; rfl⟩
        have HXP : Hd (∀ (j : Nat) (y : Int), x.l[j]? = some y → ∃ q : Nat, y = q ∧ q < es.length ∧ f q = true) := ⟨fun j y h => hxp j y huf hx h⟩
        have HU := Hd.mk hu
        clear hu hx hnu hxp huf hun
        obtain ⟨xk, xc, xp, xpc, xl⟩ := x
        simp only [ecOf] at hx12 hxr e1 e2 e3 HXE HXP
        obtain ⟨le, hle⟩ : ∃ le, le = xl.length := ⟨_, rfl⟩
        have HLE := Hd.mk hle
        have HXR := Hd.mk hxr
        rw [← hle] at e3 hx12
        clear hle
        obtain ⟨J, hJ⟩ : ∃ J : Nat → List Int, J = fun j => (xl.take j).map (fun p => ((rankN f p.toNat : Nat) : Int)) := ⟨_, rfl⟩
        have HJ0 : Hd (J 0 = []) := ⟨by rw [hJ]; rfl⟩
        have HJS : Hd (∀ (j q : Nat), xl[j]? = some (q : Int) → J (j + 1) = J j ++ [((rankN f q : Nat) : Int)]) := ⟨fun j q h => by rw [hJ]; simp only; rw [take_succ_eq h, List.map_append]; rfl⟩
        have HJL : Hd ((J le).length = le ∧ J le = xl.map (fun p => ((rankN f p.toNat : Nat) : Int))) := ⟨by rw [hJ]; simp only; rw [HLE.out, List.take_length]; exact ⟨by simp, rfl⟩⟩
        obtain ⟨g10, hg10⟩ : ∃ g10, g10 = wr.heap.size := ⟨_, rfl⟩
        obtain ⟨g11, hg11⟩ : ∃ g11, g11 = g10 + 1 := ⟨_, rfl⟩
        have HS5 : SepI ((wr.alloc (.cells #[.int .i64 xk, .int .i64 xc, .slice xp le xpc] 70 (0, 0))).alloc (.cells #[.int .i64 xk, .int .i64 xc, .slice none 0 0] 70 (0, 0))) (pts g11 (.cells #[.int .i64 xk, .int .i64 xc, (.slice none 0 0)] 70 (0, 0)) * (Row 3 1 (.slice none 0 0) 0 [] * (pts g6 (.cells #[(.slice A3 m c3)] 30 (0, 0)) * (Row 70 3 (.slice A3 m c3) m (cENs d) * (stars (d.map OwnI) * (Row 3 1 (.slice (some ⟨gk, 0, none⟩) lk ck) lk (ints (nats KL)) * (pts g4 (.cells #[.slice none 0 0] 30 (0, 0)) * (pts g2 (.cells #[.slice (some ⟨b0, off, none⟩) n c] 30 (0, 0)) * S)))))))) := by
          rw [hg11, hg10]
          exact SepI.cast (Row.nil0 (Ent.sep (S := _) (T := pts (wr.heap.size + 1) (.cells #[.int .i64 xk, .int .i64 xc, .slice none 0 0] 70 (0, 0)) * (pts g6 (.cells #[(.slice A3 m c3)] 30 (0, 0)) * (Row 70 3 (.slice A3 m c3) m (cENs d) * (stars (d.map OwnI) * (Row 3 1 (.slice (some ⟨gk, 0, none⟩) lk ck) lk (ints (nats KL)) * (pts g4 (.cells #[.slice none 0 0] 30 (0, 0)) * (pts g2 (.cells #[.slice (some ⟨b0, off, none⟩) n c] 30 (0, 0)) * S))))))) inferInstance inferInstance) 3 1) (star_left _ _ _)
        clear hJ
        go_wp2
        rw [← hg10, ← hg11]
        clear hg10 hg11
        go_loopw [44] (fun v44 wx => ∃ (j : Nat) (vv : Value), j ≤ le ∧ v44 = .int .i64 j ∧ ExtI w wx ∧ SepI wx (pts g11 (.cells #[.int .i64 xk, .int .i64 xc, vv] 70 (0, 0)) * (Row 3 1 vv j (ints (J j)) * (pts g6 (.cells #[(.slice A3 m c3)] 30 (0, 0)) * (Row 70 3 (.slice A3 m c3) m (cENs d) * (stars (d.map OwnI) * (Row 3 1 (.slice (some ⟨gk, 0, none⟩) lk ck) lk (ints (nats KL)) * (pts g4 (.cells #[.slice none 0 0] 30 (0, 0)) * (pts g2 (.cells #[.slice (some ⟨b0, off, none⟩) n c] 30 (0, 0)) * S))))))))) (fun v _ => le - (intOf v).toNat)
        case atStart => exact ⟨0, .slice none 0 0, by omega, rfl, inferInstance, SepI.cast HS5 (by rw [HJ0.out]; rfl)⟩
        case round =>
          obtain ⟨j, vv, hj, rfl, HX6, HS6⟩ := hrel
          clear HS5
          obtain ⟨A8, c8, rfl, hc8, hc8'⟩ := Row.form (SepI.cast HS6 (star_left _ _ _))
          by_cases hlj : j < le
          · obtain ⟨y, hy⟩ := get_ex (xs := xl) (k := j) (by rw [← HLE.out]; exact hlj)
            obtain ⟨q, rfl, hqn, hqf⟩ := HXP.out j y hy
            obtain ⟨bp, op, rfl⟩ := HXR.out.addr H (j := j) (by rw [ints_len, ← HLE.out]; omega)
            have f1 := HXR.out.cell (ints_get hy)
            have HRK : Hd (idxI (nats KL) (q : Int) = ((rankN f q : Nat) : Int)) := ⟨HIX.out q hqn hqf⟩
            have HJN := Hd.mk (HJS.out j q hy)
            clear hy hqn hqf
            go_wp2_with fail
            refine wp_region_T 7 (by kernel_rfl) (by kernel_rfl) (fun w' => w'.cell? ⟨g11, 2, none⟩ = some (.slice A8 j c8)) ((cell_blk _ _ _ _ _ _ _).trans rfl) (fun hHeld => ?_)
            refine wpAnyT_takeL (i := 0) (v := ?_) rfl (by kernel_rfl) (by kernel_rfl) (by kernel_rfl) (by kernel_rfl) (by kernel_rfl) (fun _ _ _ h => h) (Or.inl ⟨by rfl, ?_⟩) (by assumption) ?_
            rotate_left
            · (intro w hSw; (try dsimp only at hSw); go_simp; try with_reducible rfl)
            try simp only [Act.put, List.setIfInBounds_toArray, List.set_cons_zero, List.set_cons_succ]
            refine wpAnyT_takeL (i := 1) (v := ?_) rfl (by kernel_rfl) (by kernel_rfl) (by kernel_rfl) (by kernel_rfl) (by kernel_rfl) (fun _ _ _ h => h) (Or.inl ⟨by rfl, ?_⟩) (by assumption) ?_
            rotate_left
            · (intro w hSw; (try dsimp only at hSw); go_simp; try with_reducible rfl)
            try simp only [Act.put, List.setIfInBounds_toArray, List.set_cons_zero, List.set_cons_succ]
            refine wpAnyT_takeL (i := 2) (v := ?_) rfl (by kernel_rfl) (by kernel_rfl) (by kernel_rfl) (by kernel_rfl) (by kernel_rfl) (fun _ _ _ h => h) (Or.inl ⟨by rfl, ?_⟩) (by assumption) ?_
            rotate_left
            · (intro w hSw; (try dsimp only at hSw); go_simp; try with_reducible rfl)
            try simp only [Act.put, List.setIfInBounds_toArray, List.set_cons_zero, List.set_cons_succ]
            refine wpAnyT_takeL (i := 3) (v := ?_) rfl (by kernel_rfl) (by kernel_rfl) (by kernel_rfl) (by kernel_rfl) (by kernel_rfl) (fun _ _ _ h => h) (Or.inl ⟨by rfl, ?_⟩) (by assumption) ?_
            rotate_left
            · (intro w hSw; (try dsimp only at hSw); go_simp; try with_reducible rfl)
            try simp only [Act.put, List.setIfInBounds_toArray, List.set_cons_zero, List.set_cons_succ]
            refine wpAnyT_one (i := 4) (by kernel_rfl) rfl (by kernel_rfl) (fun KK hKK => ?_)
            refine st_list rfl ?_
            go_wp2_with (go_at_call 69; refine (indexL _ _ (some ⟨gk, 0, none⟩) ck lk (nats KL) HLK.out (by omega) (q : Int) _ HRK.out).mono ?_; rintro e w4 ⟨rfl, HP⟩; have HS9 := HP.sep; have HE9 := HP.ext; clear HP)
            refine ⟨rfl, ?_⟩
            refine hKK.out _ _ ((cell_blk _ _ _ _ _ _ _).trans rfl) (fun hHeld => ?_)
            clear hKK KK
            try simp only [Act.put, List.setIfInBounds_toArray, List.set_cons_zero, List.set_cons_succ]
            refine wpAnyT_one (i := 5) (by kernel_rfl) rfl (by kernel_rfl) (fun KK hKK => ?_)
            refine st_list rfl ?_
            go_wp2
            refine ⟨rfl, ?_⟩
            refine hKK.out _ _ ((cell_blk _ _ _ _ _ _ _).trans rfl) (fun hHeld => ?_)
            clear hKK KK
            try simp only [Act.put, List.setIfInBounds_toArray, List.set_cons_zero, List.set_cons_succ]
            refine wpAnyT_one (i := 6) (by kernel_rfl) rfl (by kernel_rfl) (fun KK hKK => ?_)
            refine st_list rfl (ev_append (v := .slice A8 j c8) rfl _ _ 34 rfl rfl 8 _ Try.underlying34 info_int rfl (by decide) (by decide) w4.heap.size 1 1 rfl rfl (by simp [Value.oneCell']) (by omega) ?_)
            intro v1 w7 HS10 HE10
            obtain ⟨A9, c9, rfl, hc9, hc9'⟩ := Row.form HS10
            refine ⟨rfl, ?_⟩
            refine hKK.out _ _ ((cell_blk _ _ _ _ _ _ _).trans rfl) (fun hHeld => ?_)
            clear hKK KK
            try simp only [Act.put, List.setIfInBounds_toArray, List.set_cons_zero, List.set_cons_succ]
            refine wpAnyT_done (by kernel_rfl) ?_
            go_wp2
            go_roundw
            case rel => exact ⟨j + 1, .slice A9 (j + 1) c9, by omega, by go_num, inferInstance, SepI.cast (Ent.sep (S := _) (T := pts g11 (.cells (#[Value.int .i64 xk, .int .i64 xc, .slice A8 j c8].setIfInBounds 2 (.slice A9 (j + 1) c9)) 70 (0, 0)) * (Row 3 1 (.slice A9 (j + 1) c9) (j + 1) (ints (J j) ++ [.int .i64 ((rankN f q : Nat) : Int)]) * (pts g6 (.cells #[(.slice A3 m c3)] 30 (0, 0)) * (Row 70 3 (.slice A3 m c3) m (cENs d) * (stars (d.map OwnI) * (Row 3 1 (.slice (some ⟨gk, 0, none⟩) lk ck) lk (ints (nats KL)) * (pts g4 (.cells #[.slice none 0 0] 30 (0, 0)) * (pts g2 (.cells #[.slice (some ⟨b0, off, none⟩) n c] 30 (0, 0)) * S)))))))) inferInstance inferInstance) (by rw [HJN.out, ints_append]; rfl)⟩
            case measure => (simp [intOf]; try omega)
          · obtain rfl : le = j := by omega
            go_wp2_with (at_builtin; go_must (refine ev_append (v := .slice A3 m c3) rfl _ _ 28 rfl rfl 40 _ Try.underlying28 info_node rfl (by decide) (by decide) wr.heap.size 1 1 rfl rfl (by simp [Value.oneCell']) (by omega) ?_); intro v5 w9 HS9 HE9; obtain ⟨A5, c5, rfl, hc5, hc5'⟩ := Row.form HS9)
            go_roundw
            case rel => exact ⟨i + 1, .slice A5 (m + 1) c5, d ++ [⟨xk, xc, A8, c8, J le⟩], by omega, by go_num, inferInstance, ⟨by rw [List.length_append, HDL.out]; rfl⟩, ⟨by rw [List.map_append, HDM.out, take_succ_eq HU.out, pruneF_snoc, HXE.out]; show _ ++ [((xk, xc, J le) : EC)] = _; rw [HJL.out.2]; rfl⟩,
              SepI.cast (Ent.sep (S := _) (T := Row 70 3 (.slice A5 (m + 1) c5) (m + 1) (cENs d ++ [.int .i64 xk, .int .i64 xc, .slice A8 le c8]) * (Row 3 1 (.slice A8 le c8) le (ints (J le)) * (stars (d.map OwnI) * (pts g6 (.cells (#[Value.slice A3 m c3].setIfInBounds 0 (.slice A5 (m + 1) c5)) 30 (0, 0)) * (Row 3 1 (.slice (some ⟨gk, 0, none⟩) lk ck) lk (ints (nats KL)) * (pts g4 (.cells #[.slice none 0 0] 30 (0, 0)) * (pts g2 (.cells #[.slice (some ⟨b0, off, none⟩) n c] 30 (0, 0)) * S))))))) inferInstance inferInstance) (by
                have h := OwnE.snoc' (v := .slice A5 (m + 1) c5) (d := d) (x := ⟨xk, xc, A8, c8, J le⟩) HM.out (F := (Row 3 1 (.slice (some ⟨gk, 0, none⟩) lk ck) lk (ints (nats KL)) * (pts g4 (.cells #[.slice none 0 0] 30 (0, 0)) * (pts g2 (.cells #[.slice (some ⟨b0, off, none⟩) n c] 30 (0, 0)) * S)))) (G := pts g6 (.cells #[.slice A5 (m + 1) c5] 30 (0, 0)))
                simp only [HJL.out.1] at h
                exact h)⟩
            case measure => (simp [intOf]; try omega)
      · obtain rfl : lk = i := by omega
        go_wp2
        refine bodyPost_ret (v := .tuple #[.agg #[.slice A3 m c3], .bool true]) (by simp [results, Try.results33, go_sem]) rfl ?_
        refine ⟨A3, c3, d, by rw [← HM.out], by rw [HDM.out, List.take_of_length_le (by rw [← nats_len, ← HLK.out]; exact Nat.le_refl _)], Post.mk' (SepI.cast (Ent.sep (S := _) (T := Row 70 3 (.slice A3 m c3) m (cENs d) * (stars (d.map OwnI) * S)) inferInstance inferInstance) ?_) inferInstance⟩
        unfold OwnE
        rw [← HM.out, star_assoc]
end Go.Proofs.Ytnmbmdigiaokjaa
