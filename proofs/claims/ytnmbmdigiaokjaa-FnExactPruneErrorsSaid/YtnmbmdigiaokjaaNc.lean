/- PruneErrors by the reference. Conditions: lengths within bounds. -/
import Derived.Test.YtnmbmdigiaokjaaNb
namespace Go.Proofs.Ytnmbmdigiaokjaa
open Go.RowKit SL
attribute [local go_sem] cell_blk frozen_blk lt_blk cell_at frozen_row lt_row
set_option linter.unusedVariables false
set_option linter.unusedSimpArgs false

def numsN (f : Nat → Bool) (n i : Nat) : List Int := nats ((List.range i).map (rankN f)) ++ List.replicate (n - i) 0
theorem inL_len (es : List EC) (n : Nat) : (inL es n).length = es.length := by
  unfold inL
  generalize es.length - n = j
  induction j with
  | zero => simp [inS]
  | succ j ih =>
    rw [inS]
    split
    · rw [markL_len]; exact ih
    · exact ih
theorem numsN_zero (f : Nat → Bool) (n : Nat) : numsN f n 0 = List.replicate n 0 := by simp [numsN, nats]
theorem numsN_full (f : Nat → Bool) (n : Nat) {q : Nat} (hq : q < n) : (numsN f n n)[q]? = some ((rankN f q : Nat) : Int) := by
  unfold numsN nats
  rw [List.getElem?_append_left (by simp; exact hq)]
  simp [hq]
theorem numsN_prev (f : Nat → Bool) (n : Nat) {i : Nat} (hi : i + 1 < n) : (numsN f n (i + 1))[i]? = some ((rankN f i : Nat) : Int) := by
  unfold numsN nats
  rw [List.getElem?_append_left (by simp)]
  simp
theorem numsN_split (f : Nat → Bool) (n : Nat) {i : Nat} (hi : i < n) : numsN f n i = nats ((List.range i).map (rankN f)) ++ (0 : Int) :: List.replicate (n - (i + 1)) 0 := by
  unfold numsN
  rw [show n - i = n - (i + 1) + 1 by omega, List.replicate_succ]
theorem numsN_head (f : Nat → Bool) (i : Nat) : (nats ((List.range i).map (rankN f))).length = i := by unfold nats; simp
theorem numsN_next (f : Nat → Bool) (n : Nat) (i : Nat) : nats ((List.range i).map (rankN f)) ++ [((rankN f i : Nat) : Int)] ++ List.replicate (n - (i + 1)) 0 = numsN f n (i + 1) := by
  unfold numsN nats
  rw [List.range_succ, List.map_append, List.map_append]; rfl
set_option maxRecDepth 100000 in
set_option maxHeartbeats 4000000 in
theorem spec_PruneErrors (S : HP) (w : World) [H : SepI w S] (A : Option Addr) (c : Nat) (es : List EN) [r : Rd S A (cENs es)] [B : Nodes S es] (hpc : PcOk es) (a : Int) :
    Calls Try.prog 32 #[.agg #[.slice A es.length c], .int .i64 a] w (ErrOk S (pruneAns (es.map ecOf) a) (hasB (es.map ecOf) [a]) w) := by
  obtain ⟨ok, hok⟩ : ∃ ok, hasB (es.map ecOf) [a] = ok := ⟨_, rfl⟩
  have HOK := Hd.mk hok
  rw [hok]
  have hn := B.n
  have HB := Hd.mk B
  clear hok hpc
  obtain ⟨g2, hg2⟩ : ∃ g2, g2 = w.heap.size := ⟨_, rfl⟩
  obtain ⟨g4, hg4⟩ : ∃ g4, g4 = g2 + 1 := ⟨_, rfl⟩
  obtain ⟨gl, hgl⟩ : ∃ gl, gl = g4 + 1 := ⟨_, rfl⟩
  obtain ⟨g6, hg6⟩ : ∃ g6, g6 = gl + 1 := ⟨_, rfl⟩
  have H1 : SepI (((w.alloc (.cells #[.slice A es.length c] 30 (0, 0))).alloc (.cells #[.slice none 0 0] 30 (0, 0))).alloc (.cells #[] 70 (0, 0))) (pts gl (.cells #[] 70 (0, 0)) * (pts g4 (.cells #[.slice none 0 0] 30 (0, 0)) * (pts g2 (.cells #[.slice A es.length c] 30 (0, 0)) * S))) := by rw [hgl, hg4, hg2]; exact SepI.i_alloc _ _ _ _
  have H2 : SepI ((((w.alloc (.cells #[.slice A es.length c] 30 (0, 0))).alloc (.cells #[.slice none 0 0] 30 (0, 0))).alloc (.cells #[] 70 (0, 0))).alloc (.cells #[.slice (some ⟨gl, 0, none⟩) 0 0] 30 (0, 0))) (pts g6 (.cells #[(.slice (some ⟨gl, 0, none⟩) 0 0)] 30 (0, 0)) * (Row 70 3 (.slice (some ⟨gl, 0, none⟩) 0 0) 0 (cENs ([] : List EN)) * (stars (([] : List EN).map OwnI) * (pts g4 (.cells #[.slice none 0 0] 30 (0, 0)) * (pts g2 (.cells #[.slice A es.length c] 30 (0, 0)) * S))))) := by
    have h3 := @SepI.i_alloc _ (.cells #[.slice (some ⟨gl, 0, none⟩) 0 0] 30 (0, 0)) _ g6 (OwnE.lit0 H1) ⟨by simp only [World.size_alloc]; omega⟩
    unfold OwnE at h3
    rw [star_assoc] at h3
    exact h3
  clear H1
  cases ok
  · rw [prune_no HOK.out]
    go_enter Try.func32, Try.ntmps32
    go_wp2_with fail
    rw [← hg2, ← hg4, ← hgl, ← hg6]
    clear hg2 hg4 hgl hg6
    refine (spec_l6One _ _ _ _ es _ _ HOK.out).mono ?_
    rintro e w1 ⟨rfl, HP⟩
    have HS1 := HP.sep
    have HE1 := HP.ext
    clear HP
    go_wp2
    refine bodyPost_ret (v := .tuple #[.agg #[.slice none 0 0], .bool false]) (by simp [results, Try.results32, go_sem]) rfl ?_
    exact ErrOk.nil (Ent.sep (S := _) inferInstance inferInstance) inferInstance
  · obtain ⟨hv, k, rfl, hk⟩ := hasB_one HOK.out
    rw [prune_yes HOK.out]
    have hkm := hk
    rw [List.length_map] at hk
    have hsm := small_of hv
    rw [List.length_map] at hsm
    obtain ⟨f, hf⟩ : ∃ f, f = keptB (es.map ecOf) k := ⟨_, rfl⟩
    obtain ⟨IL, hIL⟩ : ∃ IL, IL = inL (es.map ecOf) k := ⟨_, rfl⟩
    have HIL := Hd.mk hIL
    have HIG : Hd (∀ u, u < es.length → IL[u]? = some (f u)) := ⟨fun u hu => by
      have hl : u < (inL (es.map ecOf) k).length := by rw [inL_len, List.length_map]; exact hu
      have := in_found hv hkm u
      rw [List.getD_eq_getElem?_getD, List.getElem?_eq_getElem hl, Option.getD_some] at this
      rw [hIL, List.getElem?_eq_getElem hl, this, hf]; rfl⟩
    have HPT : Hd (∀ (u : Nat) (x : EN) (j : Nat) (y : Int), f u = true → es[u]? = some x → x.l[j]? = some y → ∃ q : Nat, y = q ∧ q < es.length ∧ f q = true) := ⟨fun u x j y h1 hx hy => by
      have := kept_part hv hkm (k := u) (by rw [← hf]; exact h1) (x := ecOf x) (by rw [List.getElem?_map, hx]; rfl) (j := j) (y := y) hy
      rw [List.length_map, ← hf] at this
      exact this⟩
    have HRL : Hd (∀ u, rankN f u ≤ u) := ⟨rankN_le f⟩
    have HSM := Hd.mk (errs_bounds hv).2
    rw [← hf, List.length_map]
    have HV := Hd.mk hv
    have HK := Hd.mk hk
    have HR := Hd.mk r
    clear hv hk hkm hf hIL
    go_enter Try.func32, Try.ntmps32
    go_wp2_with fail
    rw [← hg2, ← hg4, ← hgl, ← hg6]
    clear hg2 hg4 hgl hg6
    refine (spec_l6One _ _ _ _ es _ _ HOK.out).mono ?_
    rintro e w1 ⟨rfl, HP⟩
    have HS1 := HP.sep
    have HE1 := HP.ext
    clear HP H2
    go_upto_region 4 with (fail)
    go_cut [7, 8] (fun v7 v8 wx => ∃ gb gn : Nat, v7 = .slice (some ⟨gb, 0, none⟩) es.length es.length ∧ v8 = .slice (some ⟨gn, 0, none⟩) es.length es.length ∧ ExtI w wx ∧ SepI wx (pts g6 (.cells #[(.slice (some ⟨gl, 0, none⟩) 0 0)] 30 (0, 0)) * (Row 70 3 (.slice (some ⟨gl, 0, none⟩) 0 0) 0 (cENs ([] : List EN)) * (stars (([] : List EN).map OwnI) * (Row 4 1 (.slice (some ⟨gb, 0, none⟩) es.length es.length) es.length (bools (inL (es.map ecOf) k)) * (Row 3 1 (.slice (some ⟨gn, 0, none⟩) es.length es.length) es.length (ints (List.replicate es.length 0)) * (pts g4 (.cells #[.slice none 0 0] 30 (0, 0)) * (pts g2 (.cells #[.slice A es.length c] 30 (0, 0)) * S))))))))
    case first =>
      refine wp_region_T 8 (by kernel_rfl) (by kernel_rfl) (fun w' => w'.cell? ⟨g2, 0, none⟩ = some (.slice A es.length c)) ((cell_blk _ _ _ _ _ _ _).trans rfl) (fun hHeld => ?_)
      refine wpAnyT_takeL (i := 0) (v := ?_) rfl (by kernel_rfl) (by kernel_rfl) (by kernel_rfl) (by kernel_rfl) (by kernel_rfl) (fun _ _ _ h => h) (Or.inl ⟨by rfl, ?_⟩) (by assumption) ?_
      rotate_left
      · (intro w hSw; (try dsimp only at hSw); go_simp; try with_reducible rfl)
      try simp only [Act.put, List.setIfInBounds_toArray, List.set_cons_zero, List.set_cons_succ]
      refine wpAnyT_takeL (i := 1) (v := ?_) rfl (by kernel_rfl) (by kernel_rfl) (by kernel_rfl) (by kernel_rfl) (by kernel_rfl) (fun _ _ _ h => h) (Or.inl ⟨by rfl, ?_⟩) (by assumption) ?_
      rotate_left
      · (intro w hSw; (try dsimp only at hSw); go_simp; try with_reducible rfl)
      try simp only [Act.put, List.setIfInBounds_toArray, List.set_cons_zero, List.set_cons_succ]
      refine wpAnyT_takeL (i := 3) (v := ?_) rfl (by kernel_rfl) (by kernel_rfl) (by kernel_rfl) (by kernel_rfl) (by kernel_rfl) (fun _ _ _ h => h) (Or.inl ⟨by rfl, ?_⟩) (by assumption) ?_
      rotate_left
      · (intro w hSw; (try dsimp only at hSw); go_simp; try with_reducible rfl)
      try simp only [Act.put, List.setIfInBounds_toArray, List.set_cons_zero, List.set_cons_succ]
      refine wpAnyT_takeL (i := 4) (v := ?_) rfl (by kernel_rfl) (by kernel_rfl) (by kernel_rfl) (by kernel_rfl) (by kernel_rfl) (fun _ _ _ h => h) (Or.inl ⟨by rfl, ?_⟩) (by assumption) ?_
      rotate_left
      · (intro w hSw; (try dsimp only at hSw); go_simp; try with_reducible rfl)
      try simp only [Act.put, List.setIfInBounds_toArray, List.set_cons_zero, List.set_cons_succ]
      refine wpAnyT_takeL (i := 5) (v := ?_) rfl (by kernel_rfl) (by kernel_rfl) (by kernel_rfl) (by kernel_rfl) (by kernel_rfl) (fun _ _ _ h => h) (Or.inl ⟨by rfl, ?_⟩) (by assumption) ?_
      rotate_left
      · (intro w hSw; (try dsimp only at hSw); go_simp; try with_reducible rfl)
      try simp only [Act.put, List.setIfInBounds_toArray, List.set_cons_zero, List.set_cons_succ]
      refine wpAnyT_two (i := 2) (j := 6) (by kernel_rfl) rfl rfl (by kernel_rfl) (by kernel_rfl) (fun KK hKK => ?_) (fun KK hKK => ?_)
      · refine st_list rfl ?_
        go_wp2_with (go_at_call 65; refine (spec_l6In _ _ _ _ es HV.out k HK.out).mono ?_; rintro e w5 ⟨gb, rfl, HP⟩; have HS5 := HP.sep; have HE5 := HP.ext; clear HP)
        refine ⟨rfl, ?_⟩
        refine hKK.out _ _ ((cell_blk _ _ _ _ _ _ _).trans rfl) (fun hHeld => ?_)
        clear hKK KK
        try simp only [Act.put, List.setIfInBounds_toArray, List.set_cons_zero, List.set_cons_succ]
        refine wpAnyT_takeL (i := 7) (v := ?_) rfl (by kernel_rfl) (by kernel_rfl) (by kernel_rfl) (by kernel_rfl) (by kernel_rfl) (fun _ _ _ h => h) (Or.inl ⟨by rfl, ?_⟩) (by assumption) ?_
        rotate_left
        · (intro w hSw; (try dsimp only at hSw); go_simp; try with_reducible rfl)
        try simp only [Act.put, List.setIfInBounds_toArray, List.set_cons_zero, List.set_cons_succ]
        refine wpAnyT_one (i := 6) (by kernel_rfl) rfl (by kernel_rfl) (fun KK hKK => ?_)
        refine st_list rfl (ev_make rfl 34 _ _ rfl es.length rfl rfl 3 1 8 _ Try.underlying34 info_int rfl (by decide) (by decide) (by omega) ?_)
        rw [ints_zeros]
        intro gn w6 HS6 HE6
        refine ⟨rfl, ?_⟩
        refine hKK.out _ _ ((cell_blk _ _ _ _ _ _ _).trans rfl) (fun hHeld => ?_)
        clear hKK KK
        try simp only [Act.put, List.setIfInBounds_toArray, List.set_cons_zero, List.set_cons_succ]
        refine wpAnyT_done (by kernel_rfl) ?_
        go_wp2
        go_meet
        exact ⟨gb, gn, rfl, rfl, inferInstance, Ent.sep (S := _) inferInstance inferInstance⟩
      · refine st_list rfl (ev_make rfl 34 _ _ rfl es.length rfl rfl 3 1 8 _ Try.underlying34 info_int rfl (by decide) (by decide) (by omega) ?_)
        rw [ints_zeros]
        intro gn w6 HS6 HE6
        refine ⟨rfl, ?_⟩
        refine hKK.out _ _ ((cell_blk _ _ _ _ _ _ _).trans rfl) (fun hHeld => ?_)
        clear hKK KK
        try simp only [Act.put, List.setIfInBounds_toArray, List.set_cons_zero, List.set_cons_succ]
        refine wpAnyT_one (i := 2) (by kernel_rfl) rfl (by kernel_rfl) (fun KK hKK => ?_)
        refine st_list rfl ?_
        go_wp2_with (go_at_call 65; refine (spec_l6In _ _ _ _ es HV.out k HK.out).mono ?_; rintro e w5 ⟨gb, rfl, HP⟩; have HS5 := HP.sep; have HE5 := HP.ext; clear HP)
        refine ⟨rfl, ?_⟩
        refine hKK.out _ _ ((cell_blk _ _ _ _ _ _ _).trans rfl) (fun hHeld => ?_)
        clear hKK KK
        try simp only [Act.put, List.setIfInBounds_toArray, List.set_cons_zero, List.set_cons_succ]
        refine wpAnyT_takeL (i := 7) (v := ?_) rfl (by kernel_rfl) (by kernel_rfl) (by kernel_rfl) (by kernel_rfl) (by kernel_rfl) (fun _ _ _ h => h) (Or.inl ⟨by rfl, ?_⟩) (by assumption) ?_
        rotate_left
        · (intro w hSw; (try dsimp only at hSw); go_simp; try with_reducible rfl)
        try simp only [Act.put, List.setIfInBounds_toArray, List.set_cons_zero, List.set_cons_succ]
        refine wpAnyT_done (by kernel_rfl) ?_
        go_wp2
        go_meet
        exact ⟨gb, gn, rfl, rfl, inferInstance, Ent.sep (S := _) inferInstance inferInstance⟩
    case rest =>
      obtain ⟨gb, gn, rfl, rfl, HE4, HS4⟩ := hcut
      rw [← HIL.out] at HS4
      go_wp2
      go_loopw [9] (fun v9 wr => ∃ (i : Nat), i ≤ es.length ∧ v9 = .int .i64 i ∧ ExtI w wr ∧ SepI wr (pts g6 (.cells #[(.slice (some ⟨gl, 0, none⟩) 0 0)] 30 (0, 0)) * (Row 70 3 (.slice (some ⟨gl, 0, none⟩) 0 0) 0 (cENs ([] : List EN)) * (stars (([] : List EN).map OwnI) * (Row 4 1 (.slice (some ⟨gb, 0, none⟩) es.length es.length) es.length (bools IL) * (Row 3 1 (.slice (some ⟨gn, 0, none⟩) es.length es.length) es.length (ints (numsN f es.length i)) * (pts g4 (.cells #[.slice none 0 0] 30 (0, 0)) * (pts g2 (.cells #[.slice A es.length c] 30 (0, 0)) * S)))))))) (fun v _ => es.length - (intOf v).toNat)
      case atStart => exact ⟨0, by omega, rfl, inferInstance, SepI.cast HS4 (by rw [numsN_zero])⟩
      case round =>
        obtain ⟨i, hi, rfl, HX5, HS5⟩ := hrel
        clear HS4
        by_cases hlt : i < es.length
        · cases i with
          | zero =>
            go_wp2
            go_roundw
            case rel => exact ⟨1, by omega, by go_num, inferInstance, SepI.cast HS5 (by rw [← numsN_next, numsN_split f es.length (by omega : 0 < es.length)]; rfl)⟩
            case measure => (simp [intOf]; try omega)
          | succ k0 =>
            have hw : IntKind.i64.wrap (((k0 + 1 : Nat) : Int) - 1) = (k0 : Int) := by rw [IntWalk.i64_in _ (by omega)]; omega
            have hig := HIG.out k0 (by omega)
            have d1 : CellAt _ gn k0 _ := Row.cellAt (e := 3) (size := 1) (g := gn) (n := es.length) (c := es.length) (F := pts g4 (.cells #[.slice none 0 0] 30 (0, 0)) * (pts g2 (.cells #[.slice A es.length c] 30 (0, 0)) * S)) (ints_get (numsN_prev f es.length (i := k0) (by omega)))
            have d2 : CellAt _ gn (k0 + 1) _ := Row.cellAt (e := 3) (size := 1) (g := gn) (n := es.length) (c := es.length) (F := pts g4 (.cells #[.slice none 0 0] 30 (0, 0)) * (pts g2 (.cells #[.slice A es.length c] 30 (0, 0)) * S)) (ints_get (xs := numsN f es.length (k0 + 1)) (x := 0) (by rw [numsN_split f es.length hlt, List.getElem?_append_right (by rw [numsN_head]; exact Nat.le_refl _), numsN_head, Nat.sub_self]; rfl))
            have d3 : CellAt _ gb k0 _ := Row.cellAt (e := 4) (size := 1) (g := gb) (n := es.length) (c := es.length) (F := Row 3 1 (.slice (some ⟨gn, 0, none⟩) es.length es.length) es.length (ints (numsN f es.length (k0 + 1))) * (pts g4 (.cells #[.slice none 0 0] 30 (0, 0)) * (pts g2 (.cells #[.slice A es.length c] 30 (0, 0)) * S))) (bools_get hig)
            have hrl := HRL.out k0
            obtain ⟨q, hq⟩ : ∃ q, f k0 = q := ⟨_, rfl⟩
            have HQ := Hd.mk hq
            have HRS : Hd (rankN f (k0 + 1) = rankN f k0 + (if f k0 then 1 else 0)) := ⟨rankN_succ f k0⟩
            rw [hq] at d3
            have HE1' : Hd ((ints (numsN f es.length (k0 + 1))).set (k0 + 1) (.int .i64 ((rankN f k0 : Nat) : Int)) = ints (nats ((List.range (k0 + 1)).map (rankN f)) ++ ((rankN f k0 : Nat) : Int) :: List.replicate (es.length - (k0 + 1 + 1)) 0)) := ⟨by
              rw [numsN_split f es.length hlt, ints_upd _ _ 0 _ (k0 + 1) (numsN_head f (k0 + 1)), List.append_assoc]; rfl⟩
            clear hig hq
            cases q
            · go_wp2
              have HE2' : Hd ((ints (numsN f es.length (k0 + 1))).set (k0 + 1) (.int .i64 ((rankN f k0 : Nat) : Int)) = ints (numsN f es.length (k0 + 1 + 1))) := ⟨by
                rw [HE1'.out, ← numsN_next, HRS.out, HQ.out, List.append_assoc]; rfl⟩
              go_roundw
              case rel => exact ⟨k0 + 1 + 1, by omega, by go_num, inferInstance, SepI.cast inferInstance (by rw [HE2'.out])⟩
              case measure => (simp [intOf]; try omega)
            · have HE2' : Hd ((ints (numsN f es.length (k0 + 1))).set (k0 + 1) (.int .i64 (((rankN f k0 : Nat) : Int) + 1)) = ints (numsN f es.length (k0 + 1 + 1))) := ⟨by
                rw [numsN_split f es.length hlt, ints_upd _ _ 0 _ (k0 + 1) (numsN_head f (k0 + 1)), ← numsN_next, HRS.out, HQ.out, if_pos rfl, Int.natCast_add]; rfl⟩
              have d4 : CellAt (Row 3 1 (.slice (some ⟨gn, 0, none⟩) es.length es.length) es.length ((ints (numsN f es.length (k0 + 1))).set (k0 + 1) (.int .i64 ((rankN f k0 : Nat) : Int))) * (pts g4 (.cells #[.slice none 0 0] 30 (0, 0)) * (pts g2 (.cells #[.slice A es.length c] 30 (0, 0)) * S))) gn (k0 + 1) (.int .i64 ((rankN f k0 : Nat) : Int)) := Row.cellAt (e := 3) (size := 1) (g := gn) (n := es.length) (c := es.length) (F := pts g4 (.cells #[.slice none 0 0] 30 (0, 0)) * (pts g2 (.cells #[.slice A es.length c] 30 (0, 0)) * S)) (by rw [List.getElem?_set_self (by rw [ints_len]; unfold numsN; rw [List.length_append, numsN_head, List.length_replicate]; omega)])
              have d5 : CellAt (Row 4 1 (.slice (some ⟨gb, 0, none⟩) es.length es.length) es.length (bools IL) * (Row 3 1 (.slice (some ⟨gn, 0, none⟩) es.length es.length) es.length ((ints (numsN f es.length (k0 + 1))).set (k0 + 1) (.int .i64 ((rankN f k0 : Nat) : Int))) * (pts g4 (.cells #[.slice none 0 0] 30 (0, 0)) * (pts g2 (.cells #[.slice A es.length c] 30 (0, 0)) * S)))) gb k0 (.bool true) := Row.cellAt (e := 4) (size := 1) (g := gb) (n := es.length) (c := es.length) (by have := HIG.out k0 (by omega); rw [HQ.out] at this; exact bools_get this)
              go_wp2
              go_roundw
              case rel => exact ⟨k0 + 1 + 1, by omega, by go_num, inferInstance, SepI.cast inferInstance (by rw [List.set_set, HE2'.out])⟩
              case measure => (simp [intOf]; try omega)
        · obtain rfl : es.length = i := by omega
          go_wp2
          go_loopw [10] (fun v10 wr => ∃ (i : Nat) (vv : Value) (d : List EN), i ≤ es.length ∧ v10 = .int .i64 i ∧ ExtI w wr ∧ Hd (d.length ≤ i) ∧ Hd (d.map ecOf = pruneF (es.map ecOf) f (keepN f i)) ∧ SepI wr (pts g6 (.cells #[vv] 30 (0, 0)) * (Row 70 3 vv d.length (cENs d) * (stars (d.map OwnI) * (Row 4 1 (.slice (some ⟨gb, 0, none⟩) es.length es.length) es.length (bools IL) * (Row 3 1 (.slice (some ⟨gn, 0, none⟩) es.length es.length) es.length (ints (numsN f es.length es.length)) * (pts g4 (.cells #[.slice none 0 0] 30 (0, 0)) * (pts g2 (.cells #[.slice A es.length c] 30 (0, 0)) * S)))))))) (fun v _ => es.length - (intOf v).toNat)
          case atStart => exact ⟨0, .slice (some ⟨gl, 0, none⟩) 0 0, [], by omega, rfl, inferInstance, ⟨Nat.le_refl _⟩, ⟨rfl⟩, HS5⟩
          case round =>
            obtain ⟨i, vv, d, hi2, rfl, HX7, HDL, HDM, HS7⟩ := hrel
            clear HS5
            obtain ⟨A3, c3, rfl, hc3, hc3'⟩ := Row.form (SepI.cast HS7 (star_left _ _ _))
            obtain ⟨m, hm⟩ : ∃ m, m = d.length := ⟨_, rfl⟩
            have HM := Hd.mk hm
            have hm12 : m ≤ 12 := by rw [hm]; have := HDL.out; omega
            rw [← hm] at HS7 hc3
            clear hm
            by_cases hlt2 : i < es.length
            · have hig := HIG.out i hlt2
              have d1 : CellAt _ gb i _ := Row.cellAt (e := 4) (size := 1) (g := gb) (n := es.length) (c := es.length) (F := Row 3 1 (.slice (some ⟨gn, 0, none⟩) es.length es.length) es.length (ints (numsN f es.length es.length)) * (pts g4 (.cells #[.slice none 0 0] 30 (0, 0)) * (pts g2 (.cells #[.slice A es.length c] 30 (0, 0)) * S))) (bools_get hig)
              obtain ⟨q, hq⟩ : ∃ q, f i = q := ⟨_, rfl⟩
              have HQ := Hd.mk hq
              have HKS := Hd.mk (keepN_succ f i)
              rw [hq] at d1
              clear hig hq
              cases q
              · go_wp2
                go_roundw
                case rel => exact ⟨i + 1, .slice A3 m c3, d, by omega, by go_num, inferInstance, ⟨by have := HDL.out; omega⟩, ⟨by rw [HDM.out, HKS.out, HQ.out]; rfl⟩, SepI.cast HS7 (by rw [← HM.out])⟩
                case measure => (simp [intOf]; try omega)
              · obtain ⟨x, hx⟩ := get_ex (xs := es) (k := i) hlt2
                obtain ⟨hx12, _⟩ := HSM.out x (List.mem_of_getElem? hx)
                have hxr := HB.out.rd x (List.mem_of_getElem? hx)
                obtain ⟨b0, off, rfl⟩ := r.addr H (j := i * 3) (by rw [cENs_len]; omega)
                have e1 : CellAt S b0 (off + i * 3) _ := HR.out.cell (cENs_get hx).1
                have e2 : CellAt S b0 (off + i * 3 + 1) _ := HR.out.cell (cENs_get hx).2.1
                have e3 : CellAt S b0 (off + i * 3 + 2) _ := HR.out.cell (cENs_get hx).2.2
                have hxp := HPT.out i x
                have HXE : Hd ((es.map ecOf).getD i (0, 0, []) = ecOf x) := ⟨by rw [List.getD_eq_getElem?_getD, List.getElem?_map, hx]; rfl⟩
                have HXP : Hd (∀ (j : Nat) (y : Int), x.l[j]? = some y → ∃ q : Nat, y = q ∧ q < es.length ∧ f q = true) := ⟨fun j y h => hxp j y HQ.out hx h⟩
                clear hx hxp
                obtain ⟨xk, xc, xp, xpc, xl⟩ := x
                simp only [ecOf] at hx12 hxr e1 e2 e3 HXE HXP
                obtain ⟨le, hle⟩ : ∃ le, le = xl.length := ⟨_, rfl⟩
                have HLE := Hd.mk hle
                have HXR := Hd.mk hxr
                rw [← hle] at e3 hx12
                clear hle
                obtain ⟨J, hJ⟩ : ∃ J : Nat → List Int, J = fun j => (xl.take j).map (fun p => ((rankN f p.toNat : Nat) : Int)) := ⟨_, rfl⟩
                have HJ0 : Hd (J 0 = []) := ⟨by rw [hJ]; rfl⟩
                have HJS : Hd (∀ (j q : Nat), xl[j]? = some (q : Int) → J (j + 1) = J j ++ [((rankN f q : Nat) : Int)]) := ⟨fun j q h => by rw [hJ]; simp only; rw [take_succ_eq h, List.map_append]; rfl⟩
                have HJL : Hd ((J le).length = le ∧ J le = xl.map (fun p => ((rankN f p.toNat : Nat) : Int))) := ⟨by rw [hJ]; simp only; rw [HLE.out, List.take_length]; exact ⟨by simp, rfl⟩⟩
                obtain ⟨g11, hg11⟩ : ∃ g11, g11 = wr.heap.size := ⟨_, rfl⟩
                have HS8 : SepI (wr.alloc (.cells #[] 3 (0, 0))) (Row 3 1 (.slice (some ⟨g11, 0, none⟩) 0 0) 0 [] * (pts g6 (.cells #[(.slice A3 m c3)] 30 (0, 0)) * (Row 70 3 (.slice A3 m c3) m (cENs d) * (stars (d.map OwnI) * (Row 4 1 (.slice (some ⟨gb, 0, none⟩) es.length es.length) es.length (bools IL) * (Row 3 1 (.slice (some ⟨gn, 0, none⟩) es.length es.length) es.length (ints (numsN f es.length es.length)) * (pts g4 (.cells #[.slice none 0 0] 30 (0, 0)) * (pts g2 (.cells #[.slice (some ⟨b0, off, none⟩) es.length c] 30 (0, 0)) * S)))))))) := by rw [hg11]; exact Row.lit0 (SepI.i_alloc _ (.cells #[] 3 (0, 0)) _ _)
                clear hJ
                go_wp2
                rw [← hg11]
                clear hg11
                go_loopw [11, 12] (fun v11 v12 wx => ∃ (j : Nat) (vv : Value), j ≤ le ∧ v12 = .int .i64 j ∧ v11 = vv ∧ Hd (ExtI w wx) ∧ SepI wx (Row 3 1 vv j (ints (J j)) * (pts g6 (.cells #[(.slice A3 m c3)] 30 (0, 0)) * (Row 70 3 (.slice A3 m c3) m (cENs d) * (stars (d.map OwnI) * (Row 4 1 (.slice (some ⟨gb, 0, none⟩) es.length es.length) es.length (bools IL) * (Row 3 1 (.slice (some ⟨gn, 0, none⟩) es.length es.length) es.length (ints (numsN f es.length es.length)) * (pts g4 (.cells #[.slice none 0 0] 30 (0, 0)) * (pts g2 (.cells #[.slice (some ⟨b0, off, none⟩) es.length c] 30 (0, 0)) * S))))))))) (fun _ v _ => le - (intOf v).toNat)
                case atStart => exact ⟨0, .slice (some ⟨g11, 0, none⟩) 0 0, by omega, rfl, rfl, ⟨inferInstance⟩, SepI.cast HS8 (by rw [HJ0.out]; rfl)⟩
                case round =>
                  obtain ⟨j, vv, hj, rfl, rfl, HX8, HS9⟩ := hrel
                  have hx8 := HX8.out
                  clear HS8
                  obtain ⟨A8, c8, rfl, hc8, hc8'⟩ := Row.form HS9
                  by_cases hlj : j < le
                  · obtain ⟨y, hy⟩ := get_ex (xs := xl) (k := j) (by rw [← HLE.out]; exact hlj)
                    obtain ⟨q, rfl, hqn, hqf⟩ := HXP.out j y hy
                    obtain ⟨bp, op, rfl⟩ := HXR.out.addr H (j := j) (by rw [ints_len, ← HLE.out]; omega)
                    have f1 := HXR.out.cell (ints_get hy)
                    have f2 : CellAt _ gn q _ := Row.cellAt (e := 3) (size := 1) (g := gn) (n := es.length) (c := es.length) (F := pts g4 (.cells #[.slice none 0 0] 30 (0, 0)) * (pts g2 (.cells #[.slice (some ⟨b0, off, none⟩) es.length c] 30 (0, 0)) * S)) (ints_get (numsN_full f es.length hqn))
                    have HJN := Hd.mk (HJS.out j q hy)
                    clear hy hqf
                    go_wp2_with (at_builtin; go_must (refine ev_append (v := .slice A8 j c8) rfl _ _ 34 rfl rfl 8 _ Try.underlying34 info_int rfl (by decide) (by decide) wr.heap.size 1 1 rfl rfl (by simp [Value.oneCell']) (by omega) ?_); intro v1 w10 HS10 HE10)
                    go_roundw
                    case rel => exact ⟨j + 1, v1, by omega, by go_num, rfl, ⟨inferInstance⟩, SepI.cast (Ent.sep (S := _) (T := Row 3 1 v1 (j + 1) (ints (J j) ++ [.int .i64 ((rankN f q : Nat) : Int)]) * (pts g6 (.cells #[(.slice A3 m c3)] 30 (0, 0)) * (Row 70 3 (.slice A3 m c3) m (cENs d) * (stars (d.map OwnI) * (Row 4 1 (.slice (some ⟨gb, 0, none⟩) es.length es.length) es.length (bools IL) * (Row 3 1 (.slice (some ⟨gn, 0, none⟩) es.length es.length) es.length (ints (numsN f es.length es.length)) * (pts g4 (.cells #[.slice none 0 0] 30 (0, 0)) * (pts g2 (.cells #[.slice (some ⟨b0, off, none⟩) es.length c] 30 (0, 0)) * S)))))))) inferInstance HS10) (by rw [HJN.out, ints_append]; rfl)⟩
                    case measure => (simp [intOf]; try omega)
                  · obtain rfl : le = j := by omega
                    go_wp2_with fail
                    refine wp_region_T 18 (by kernel_rfl) (by kernel_rfl) (fun w' => w'.cell? ⟨g6, 0, none⟩ = some (.slice A3 m c3) ∧ w'.cell? ⟨g2, 0, none⟩ = some (.slice (some ⟨b0, off, none⟩) es.length c) ∧ w'.cell? ⟨b0, off + i * 3, none⟩ = some (.int .i64 xk) ∧ w'.cell? ⟨b0, off + i * 3 + 1, none⟩ = some (.int .i64 xc)) ⟨(cell_blk _ _ _ _ _ _ _).trans rfl, (cell_blk _ _ _ _ _ _ _).trans rfl, cell_at _ _ _ _ _, cell_at _ _ _ _ _⟩ (fun hHeld => ?_)
                    refine wpAnyT_takeL (i := 0) (v := ?_) rfl (by kernel_rfl) (by kernel_rfl) (by kernel_rfl) (by kernel_rfl) (by kernel_rfl) (fun _ _ _ h => h) (Or.inl ⟨by rfl, ?_⟩) (by assumption) ?_
                    rotate_left
                    · (intro w hSw; (try dsimp only at hSw); go_simp; try with_reducible rfl)
                    try simp only [Act.put, List.setIfInBounds_toArray, List.set_cons_zero, List.set_cons_succ]
                    refine wpAnyT_takeL (i := 1) (v := ?_) rfl (by kernel_rfl) (by kernel_rfl) (by kernel_rfl) (by kernel_rfl) (by kernel_rfl) (fun _ _ _ h => h) (Or.inl ⟨by rfl, ?_⟩) (by assumption) ?_
                    rotate_left
                    · (intro w hSw; (try dsimp only at hSw); go_simp; try with_reducible rfl)
                    try simp only [Act.put, List.setIfInBounds_toArray, List.set_cons_zero, List.set_cons_succ]
                    refine wpAnyT_takeL (i := 2) (v := ?_) rfl (by kernel_rfl) (by kernel_rfl) (by kernel_rfl) (by kernel_rfl) (by kernel_rfl) (fun _ _ _ h => h) (Or.inl ⟨by rfl, ?_⟩) (by assumption) ?_
                    rotate_left
                    · (intro w hSw; (try dsimp only at hSw); go_simp; try with_reducible rfl)
                    try simp only [Act.put, List.setIfInBounds_toArray, List.set_cons_zero, List.set_cons_succ]
                    refine wpAnyT_takeL (i := 3) (v := ?_) rfl (by kernel_rfl) (by kernel_rfl) (by kernel_rfl) (by kernel_rfl) (by kernel_rfl) (fun _ _ _ h => h) (Or.inl ⟨by rfl, ?_⟩) (by assumption) ?_
                    rotate_left
                    · (intro w hSw; (try dsimp only at hSw); go_simp; try with_reducible rfl)
                    try simp only [Act.put, List.setIfInBounds_toArray, List.set_cons_zero, List.set_cons_succ]
                    refine wpAnyT_takeL (i := 4) (v := ?_) rfl (by kernel_rfl) (by kernel_rfl) (by kernel_rfl) (by kernel_rfl) (by kernel_rfl) (fun _ _ _ h => h) (Or.inl ⟨by rfl, ?_⟩) (by assumption) ?_
                    rotate_left
                    · (intro w hSw; (try dsimp only at hSw); go_simp; try with_reducible rfl)
                    try simp only [Act.put, List.setIfInBounds_toArray, List.set_cons_zero, List.set_cons_succ]
                    refine wpAnyT_takeL (i := 5) (v := ?_) rfl (by kernel_rfl) (by kernel_rfl) (by kernel_rfl) (by kernel_rfl) (by kernel_rfl) (fun _ _ _ h => h) (Or.inl ⟨by rfl, ?_⟩) (by assumption) ?_
                    rotate_left
                    · (intro w hSw; (try dsimp only at hSw); go_simp; try with_reducible rfl)
                    try simp only [Act.put, List.setIfInBounds_toArray, List.set_cons_zero, List.set_cons_succ]
                    refine wpAnyT_takeL (i := 6) (v := ?_) rfl (by kernel_rfl) (by kernel_rfl) (by kernel_rfl) (by kernel_rfl) (by kernel_rfl) (fun _ _ _ h => h) (Or.inl ⟨by rfl, ?_⟩) (by assumption) ?_
                    rotate_left
                    · (intro w hSw; (try dsimp only at hSw); go_simp; try with_reducible rfl)
                    try simp only [Act.put, List.setIfInBounds_toArray, List.set_cons_zero, List.set_cons_succ]
                    refine wpAnyT_takeL (i := 7) (v := ?_) rfl (by kernel_rfl) (by kernel_rfl) (by kernel_rfl) (by kernel_rfl) (by kernel_rfl) (fun _ _ _ h => h) (Or.inl ⟨by rfl, ?_⟩) (by assumption) ?_
                    rotate_left
                    · (intro w hSw; (try dsimp only at hSw); go_simp; try with_reducible rfl)
                    try simp only [Act.put, List.setIfInBounds_toArray, List.set_cons_zero, List.set_cons_succ]
                    refine wpAnyT_takeL (i := 8) (v := ?_) rfl (by kernel_rfl) (by kernel_rfl) (by kernel_rfl) (by kernel_rfl) (by kernel_rfl) (fun _ _ _ h => h) (Or.inl ⟨by rfl, ?_⟩) (by assumption) ?_
                    rotate_left
                    · (intro w hSw; (try dsimp only at hSw); go_simp; try with_reducible rfl)
                    try simp only [Act.put, List.setIfInBounds_toArray, List.set_cons_zero, List.set_cons_succ]
                    refine wpAnyT_takeL (i := 9) (v := ?_) rfl (by kernel_rfl) (by kernel_rfl) (by kernel_rfl) (by kernel_rfl) (by kernel_rfl) (fun _ _ _ h => h) (Or.inl ⟨by rfl, ?_⟩) (by assumption) ?_
                    rotate_left
                    · (intro w hSw; (try dsimp only at hSw); go_simp; try with_reducible rfl)
                    try simp only [Act.put, List.setIfInBounds_toArray, List.set_cons_zero, List.set_cons_succ]
                    refine wpAnyT_takeL (i := 10) (v := ?_) rfl (by kernel_rfl) (by kernel_rfl) (by kernel_rfl) (by kernel_rfl) (by kernel_rfl) (fun _ _ _ h => h) (Or.inl ⟨by rfl, ?_⟩) (by assumption) ?_
                    rotate_left
                    · (intro w hSw; (try dsimp only at hSw); go_simp; try with_reducible rfl)
                    try simp only [Act.put, List.setIfInBounds_toArray, List.set_cons_zero, List.set_cons_succ]
                    refine wpAnyT_takeL (i := 11) (v := ?_) rfl (by kernel_rfl) (by kernel_rfl) (by kernel_rfl) (by kernel_rfl) (by kernel_rfl) (fun _ _ _ h => h) (Or.inl ⟨by rfl, ?_⟩) (by assumption) ?_
                    rotate_left
                    · (intro w hSw; (try dsimp only at hSw); go_simp; try with_reducible rfl)
                    try simp only [Act.put, List.setIfInBounds_toArray, List.set_cons_zero, List.set_cons_succ]
                    refine wpAnyT_takeL (i := 12) (v := ?_) rfl (by kernel_rfl) (by kernel_rfl) (by kernel_rfl) (by kernel_rfl) (by kernel_rfl) (fun _ _ _ h => h) (Or.inl ⟨by rfl, ?_⟩) (by assumption) ?_
                    rotate_left
                    · (intro w hSw; (try dsimp only at hSw); go_simp; try with_reducible rfl)
                    try simp only [Act.put, List.setIfInBounds_toArray, List.set_cons_zero, List.set_cons_succ]
                    refine wpAnyT_takeL (i := 13) (v := ?_) rfl (by kernel_rfl) (by kernel_rfl) (by kernel_rfl) (by kernel_rfl) (by kernel_rfl) (fun _ _ _ h => h) (Or.inl ⟨by rfl, ?_⟩) (by assumption) ?_
                    rotate_left
                    · (intro w hSw; (try dsimp only at hSw); go_simp; try with_reducible rfl)
                    try simp only [Act.put, List.setIfInBounds_toArray, List.set_cons_zero, List.set_cons_succ]
                    refine wpAnyT_takeL (i := 14) (v := ?_) rfl (by kernel_rfl) (by kernel_rfl) (by kernel_rfl) (by kernel_rfl) (by kernel_rfl) (fun _ _ _ h => h) (Or.inl ⟨by rfl, ?_⟩) (by assumption) ?_
                    rotate_left
                    · (intro w hSw; (try dsimp only at hSw); go_simp; try with_reducible rfl)
                    try simp only [Act.put, List.setIfInBounds_toArray, List.set_cons_zero, List.set_cons_succ]
                    refine wpAnyT_takeL (i := 15) (v := ?_) rfl (by kernel_rfl) (by kernel_rfl) (by kernel_rfl) (by kernel_rfl) (by kernel_rfl) (fun _ _ _ h => h) (Or.inl ⟨by rfl, ?_⟩) (by assumption) ?_
                    rotate_left
                    · (intro w hSw; (try dsimp only at hSw); go_simp; try with_reducible rfl)
                    try simp only [Act.put, List.setIfInBounds_toArray, List.set_cons_zero, List.set_cons_succ]
                    refine wpAnyT_one (i := 16) (by kernel_rfl) rfl (by kernel_rfl) (fun KK hKK => ?_)
                    refine st_list rfl ?_
                    go_wp2
                    refine ⟨rfl, ?_⟩
                    refine hKK.out _ _ ⟨(cell_blk _ _ _ _ _ _ _).trans rfl, (cell_blk _ _ _ _ _ _ _).trans rfl, cell_at _ _ _ _ _, cell_at _ _ _ _ _⟩ (fun hHeld => ?_)
                    clear hKK KK
                    try simp only [Act.put, List.setIfInBounds_toArray, List.set_cons_zero, List.set_cons_succ]
                    refine wpAnyT_one (i := 17) (by kernel_rfl) rfl (by kernel_rfl) (fun KK hKK => ?_)
                    refine st_list rfl (ev_append (v := .slice A3 m c3) rfl _ _ 28 rfl rfl 40 _ Try.underlying28 info_node rfl (by decide) (by decide) wr.heap.size 1 1 rfl rfl (by simp [Value.oneCell']) (by omega) ?_)
                    intro v5 w9 HS9 HE9
                    obtain ⟨A5, c5, rfl, hc5, hc5'⟩ := Row.form HS9
                    refine ⟨rfl, ?_⟩
                    refine hKK.out _ _ ⟨(cell_blk _ _ _ _ _ _ _).trans rfl, (cell_blk _ _ _ _ _ _ _).trans rfl, cell_at _ _ _ _ _, cell_at _ _ _ _ _⟩ (fun hHeld => ?_)
                    clear hKK KK
                    try simp only [Act.put, List.setIfInBounds_toArray, List.set_cons_zero, List.set_cons_succ]
                    refine wpAnyT_done (by kernel_rfl) ?_
                    go_wp2
                    go_roundw
                    case rel => exact ⟨i + 1, .slice A5 (m + 1) c5, d ++ [⟨xk, xc, A8, c8, J le⟩], by omega, by go_num, inferInstance, ⟨by rw [List.length_append]; have := HDL.out; simp; omega⟩, ⟨by rw [List.map_append, HDM.out, HKS.out, HQ.out, if_pos rfl, pruneF_snoc, HXE.out]; show _ ++ [((xk, xc, J le) : EC)] = _; rw [HJL.out.2]; rfl⟩,
                      SepI.cast (Ent.sep (S := _) (T := Row 70 3 (.slice A5 (m + 1) c5) (m + 1) (cENs d ++ [.int .i64 xk, .int .i64 xc, .slice A8 le c8]) * (Row 3 1 (.slice A8 le c8) le (ints (J le)) * (stars (d.map OwnI) * (pts g6 (.cells (#[Value.slice A3 m c3].setIfInBounds 0 (.slice A5 (m + 1) c5)) 30 (0, 0)) * (Row 4 1 (.slice (some ⟨gb, 0, none⟩) es.length es.length) es.length (bools IL) * (Row 3 1 (.slice (some ⟨gn, 0, none⟩) es.length es.length) es.length (ints (numsN f es.length es.length)) * (pts g4 (.cells #[.slice none 0 0] 30 (0, 0)) * (pts g2 (.cells #[.slice (some ⟨b0, off, none⟩) es.length c] 30 (0, 0)) * S)))))))) inferInstance inferInstance) (by
                        have h := OwnE.snoc' (v := .slice A5 (m + 1) c5) (d := d) (x := ⟨xk, xc, A8, c8, J le⟩) HM.out (F := (Row 4 1 (.slice (some ⟨gb, 0, none⟩) es.length es.length) es.length (bools IL) * (Row 3 1 (.slice (some ⟨gn, 0, none⟩) es.length es.length) es.length (ints (numsN f es.length es.length)) * (pts g4 (.cells #[.slice none 0 0] 30 (0, 0)) * (pts g2 (.cells #[.slice (some ⟨b0, off, none⟩) es.length c] 30 (0, 0)) * S))))) (G := pts g6 (.cells #[.slice A5 (m + 1) c5] 30 (0, 0)))
                        simp only [HJL.out.1] at h
                        exact h)⟩
                    case measure => (simp [intOf]; try omega)
            · obtain rfl : es.length = i := by omega
              go_wp2
              refine bodyPost_ret (v := .tuple #[.agg #[.slice A3 m c3], .bool true]) (by simp [results, Try.results32, go_sem]) rfl ?_
              refine ⟨A3, c3, d, by rw [← HM.out], HDM.out, Post.mk' (SepI.cast (Ent.sep (S := _) (T := Row 70 3 (.slice A3 m c3) m (cENs d) * (stars (d.map OwnI) * S)) inferInstance inferInstance) ?_) inferInstance⟩
              unfold OwnE
              rw [← HM.out, star_assoc]
end Go.Proofs.Ytnmbmdigiaokjaa
