/- PanickingArgs and PanicValues, by the program and by the reference. Conditions: lengths within bounds. -/
import Derived.Test.YtobikkdnalnllaaQk
import Derived.Test.YtobikkdnalnllaaSp
import Derived.Test.YtobikkdnalnllaaPs
namespace Go.Proofs.Ytobikkdnalnllaa
open Go.RowKit SL
attribute [local go_sem] cell_blk frozen_blk lt_blk cell_at frozen_row lt_row
set_option linter.unusedVariables false
set_option linter.unusedSimpArgs false

theorem ascA_snocZ (l : List Int) (x : Int) : ascA (l ++ [x]) = putA (ascA l) x := by unfold ascA; rw [List.foldl_append]; rfl
theorem putA_lenZ : ∀ (l : List Int) (x : Int), (putA l x).length ≤ l.length + 1 ∧ 0 < (putA l x).length
  | [], x => by simp [putA]
  | y :: l, x => by
    have := putA_lenZ l x
    unfold putA
    split
    · simp only [List.length_cons]; omega
    · split
      · simp only [List.length_cons]; omega
      · simp only [List.length_cons]; omega
theorem ascA_lenZ (l : List Int) : (ascA l).length ≤ l.length := by
  have key : ∀ (l m : List Int), (l.foldl putA m).length ≤ m.length + l.length := by
    intro l
    induction l with
    | nil => intro m; simp
    | cons x l ih => intro m; rw [List.foldl_cons]; have := ih (putA m x); have := (putA_lenZ m x).1; simp only [List.length_cons]; omega
  have := key l []
  simpa [ascA] using this
theorem MachRC.moveZ (gm : Nat) (A : Option Addr) (n c : Nat) (fuel : Int) (m : Ma) (k v : Int) (x : MVs) (F G : HP) : MachRC gm A n c fuel m k v x (F * G) = F * MachRC gm A n c fuel m k v x G := by
  unfold MachRC
  ac_rfl
/-- Which ranges are valid. -/
def rngB (L : List (List St)) (fn low high fuel : Int) : Bool := askB L fn low fuel && (inB high (-32768) 32767 && inB high low (low + 100))
theorem rng_ask {L : List (List St)} {fn low high fuel : Int} (h : rngB L fn low high fuel = true) : (low ≤ high ∧ high ≤ low + 100 ∧ -32768 ≤ low ∧ high ≤ 32767) ∧ ∀ arg, low ≤ arg → arg ≤ high → askB L fn arg fuel = true := by
  unfold rngB at h
  rw [Bool.and_eq_true, Bool.and_eq_true] at h
  obtain ⟨h1, h2, h3⟩ := h
  have a2 := inB_of h2
  have a3 := inB_of h3
  have a1 := (askB_of h1).2.2.1
  refine ⟨⟨a3.1, a3.2, a1.1, a2.2⟩, fun arg g1 g2 => ?_⟩
  unfold askB at h1 ⊢
  rw [Bool.and_eq_true, Bool.and_eq_true, Bool.and_eq_true] at h1 ⊢
  exact ⟨h1.1, h1.2.1, inB_mk (by have := a1.1; omega) (by omega), h1.2.2.2⟩
/-- The arguments of a range with which runs end by a panic, up to one, and the values of these. -/
def pArg (L : List (List St)) (fn fu low : Int) (i : Nat) : List Int := ((List.range i).map (fun j : Nat => low + (j : Int))).filter (fun a => (ranM L fn a fu.toNat).kind == 2)
def pVal (L : List (List St)) (fn fu low : Int) (i : Nat) : List Int := (pArg L fn fu low i).map (fun a => (ranM L fn a fu.toNat).val)
theorem pArg_len (L : List (List St)) (fn fu low : Int) (i : Nat) : (pArg L fn fu low i).length ≤ i := by
  unfold pArg
  refine Nat.le_trans (List.length_filter_le _ _) ?_
  simp
theorem pVal_len (L : List (List St)) (fn fu low : Int) (i : Nat) : (pVal L fn fu low i).length ≤ i := by unfold pVal; rw [List.length_map]; exact pArg_len ..
theorem pArg_yes {L : List (List St)} {fn fu low : Int} {i : Nat} (h : (ranM L fn (low + i) fu.toNat).kind = 2) : pArg L fn fu low (i + 1) = pArg L fn fu low i ++ [low + (i : Int)] := by
  unfold pArg
  rw [List.range_succ, List.map_append, List.filter_append]
  congr 1
  show List.filter _ [low + (i : Int)] = _
  rw [List.filter_cons_of_pos (by show ((ranM L fn (low + i) fu.toNat).kind == 2) = true; rw [h]; rfl)]; rfl
theorem pArg_no {L : List (List St)} {fn fu low : Int} {i : Nat} (h : (ranM L fn (low + i) fu.toNat).kind ≠ 2) : pArg L fn fu low (i + 1) = pArg L fn fu low i := by
  unfold pArg
  rw [List.range_succ, List.map_append, List.filter_append]
  have : List.filter (fun a => (ranM L fn a fu.toNat).kind == 2) (List.map (fun j : Nat => low + (j : Int)) [i]) = [] := by
    show List.filter _ [low + (i : Int)] = _
    rw [List.filter_cons_of_neg (by show ¬ ((ranM L fn (low + i) fu.toNat).kind == 2) = true; rw [beq_iff_eq]; exact h)]; rfl
  rw [this, List.append_nil]
theorem pVal_yes {L : List (List St)} {fn fu low : Int} {i : Nat} (h : (ranM L fn (low + i) fu.toNat).kind = 2) : pVal L fn fu low (i + 1) = pVal L fn fu low i ++ [(ranM L fn (low + i) fu.toNat).val] := by unfold pVal; rw [pArg_yes h, List.map_append]; rfl
theorem pVal_no {L : List (List St)} {fn fu low : Int} {i : Nat} (h : (ranM L fn (low + i) fu.toNat).kind ≠ 2) : pVal L fn fu low (i + 1) = pVal L fn fu low i := by unfold pVal; rw [pArg_no h]
/-- How many arguments a range holds. -/
def rngN (low high : Int) : Nat := (high - low + 1).toNat
abbrev three (a b c : Value) : Ending := .returned (.tuple #[a, b, c])
set_option maxRecDepth 100000 in
set_option maxHeartbeats 8000000 in
theorem impl_panickingN (S : HP) (w : World) [H : SepI w S] (A : Option Addr) (c : Nat) (bs : List Bd) [r : Rd S A (cBds bs)] [B : Bodies S bs] (fn low high fuel : Int) (hv : rngB (bs.map (·.l)) fn low high fuel = false) :
    Calls Try.prog 57 #[.agg #[.slice A bs.length c], .int .i64 fn, .int .i64 low, .int .i64 high, .int .i64 fuel] w fun e w' => e = three (.slice none 0 0) (.slice none 0 0) (.bool false) ∧ Post w S w' := by
  have hbn := B.n
  obtain ⟨q1, hq1⟩ : ∃ q1, inB low (-32768) 32767 = q1 := ⟨_, rfl⟩
  obtain ⟨q2, hq2⟩ : ∃ q2, inB high (-32768) 32767 = q2 := ⟨_, rfl⟩
  obtain ⟨q3, hq3⟩ : ∃ q3, inB high low (low + 100) = q3 := ⟨_, rfl⟩
  have H1 := Hd.mk hq1
  have H2 := Hd.mk hq2
  have H3 := Hd.mk hq3
  have HV := Hd.mk hv
  clear hv hq1 hq2 hq3
  cases q1
  · clear H2 H3
    go_enter Try.func57, Try.ntmps57
    go_wp2_with fail
    refine (impl_isNumber low false _ H1.out).mono ?_
    rintro e wz ⟨rfl, hz⟩
    have hz2 := hz.symm
    subst hz2
    clear hz
    go_wp2
    refine bodyPost_ret (v := .tuple #[.slice none 0 0, .slice none 0 0, .bool false]) (by simp [results, Try.results57, go_sem]) rfl ?_
    exact ⟨rfl, Post.mk' (Ent.sep (S := _) inferInstance inferInstance) inferInstance⟩
  · have hb1 := inB_true H1.out
    have hw : IntKind.i64.wrap (low + 100) = low + 100 := IntWalk.i64_in _ (by omega)
    cases q2
    · clear H3
      go_enter Try.func57, Try.ntmps57
      go_wp2_with fail
      refine (impl_isNumber low true _ H1.out).mono ?_
      rintro e wz ⟨rfl, hz⟩
      have hz2 := hz.symm
      subst hz2
      clear hz
      go_wp2_with fail
      refine (impl_isNumber high false _ H2.out).mono ?_
      rintro e wz ⟨rfl, hz⟩
      have hz2 := hz.symm
      subst hz2
      clear hz
      go_wp2
      refine bodyPost_ret (v := .tuple #[.slice none 0 0, .slice none 0 0, .bool false]) (by simp [results, Try.results57, go_sem]) rfl ?_
      exact ⟨rfl, Post.mk' (Ent.sep (S := _) inferInstance inferInstance) inferInstance⟩
    · have hb2 := inB_true H2.out
      cases q3
      · skip
        go_enter Try.func57, Try.ntmps57
        go_wp2_with fail
        refine (impl_isNumber low true _ H1.out).mono ?_
        rintro e wz ⟨rfl, hz⟩
        have hz2 := hz.symm
        subst hz2
        clear hz
        go_wp2_with fail
        refine (impl_isNumber high true _ H2.out).mono ?_
        rintro e wz ⟨rfl, hz⟩
        have hz2 := hz.symm
        subst hz2
        clear hz
        go_wp2_with fail
        refine (impl_in high low (low + 100) false _ H3.out).mono ?_
        rintro e wz ⟨rfl, hz⟩
        have hz2 := hz.symm
        subst hz2
        clear hz
        go_wp2
        refine bodyPost_ret (v := .tuple #[.slice none 0 0, .slice none 0 0, .bool false]) (by simp [results, Try.results57, go_sem]) rfl ?_
        exact ⟨rfl, Post.mk' (Ent.sep (S := _) inferInstance inferInstance) inferInstance⟩
      · have hb3 := inB_true H3.out
        have hle : low ≤ high := hb3.1
        have HAV : Hd (askB (bs.map (·.l)) fn low fuel = false) := ⟨by
          have := HV.out
          unfold rngB at this
          rw [H2.out, H3.out, Bool.and_self, Bool.and_true] at this
          exact this⟩
        go_enter Try.func57, Try.ntmps57
        go_wp2_with fail
        refine (impl_isNumber low true _ H1.out).mono ?_
        rintro e wz ⟨rfl, hz⟩
        have hz2 := hz.symm
        subst hz2
        clear hz
        go_wp2_with fail
        refine (impl_isNumber high true _ H2.out).mono ?_
        rintro e wz ⟨rfl, hz⟩
        have hz2 := hz.symm
        subst hz2
        clear hz
        go_wp2_with fail
        refine (impl_in high low (low + 100) true _ H3.out).mono ?_
        rintro e wz ⟨rfl, hz⟩
        have hz2 := hz.symm
        subst hz2
        clear hz
        go_wp2
        go_loopw [13, 14, 15] (fun v13 v14 v15 wr => v15 = .int .i64 low ∧ v13 = v13 ∧ v14 = v14 ∧ ExtI w wr ∧ SepI wr (pts w.heap.size (.cells #[.slice A bs.length c] 31 (0, 0)) * S)) (fun _ _ v _ => (high + 1 - intOf v).toNat)
        case atStart => exact ⟨rfl, rfl, rfl, inferInstance, Ent.sep (S := _) inferInstance inferInstance⟩
        case round =>
          obtain ⟨rfl, _, _, HX, HS3⟩ := hrel
          go_wp2_with fail
          refine (impl_ranN _ _ A c bs fn low fuel HAV.out).mono ?_
          rintro e w1 ⟨rfl, HP⟩
          have HS1 := HP.sep
          have HE1 := HP.ext
          clear HP
          go_wp2
          refine bodyPost_ret (v := .tuple #[.slice none 0 0, .slice none 0 0, .bool false]) (by simp [results, Try.results57, go_sem]) rfl ?_
          exact ⟨rfl, Post.mk' (Ent.sep (S := _) inferInstance inferInstance) inferInstance⟩
set_option maxRecDepth 100000 in
set_option maxHeartbeats 8000000 in
theorem impl_panickingV (S : HP) (w : World) [H : SepI w S] (A : Option Addr) (c : Nat) (bs : List Bd) [r : Rd S A (cBds bs)] [B : Bodies S bs] (fn low high : Int) (fu : Nat) (L : List (List St)) (hbs : bs.map (·.l) = L) (hv : rngB L fn low high fu = true) :
    Calls Try.prog 57 #[.agg #[.slice A bs.length c], .int .i64 fn, .int .i64 low, .int .i64 high, .int .i64 fu] w fun e w' => ∃ v1 v2, e = three v1 v2 (.bool true) ∧ Post w (Row 3 1 v1 (pArg L fn fu low (rngN low high)).length (ints (pArg L fn fu low (rngN low high))) * (Row 3 1 v2 (ascA (pVal L fn fu low (rngN low high))).length (ints (ascA (pVal L fn fu low (rngN low high)))) * S)) w' := by
  have hbn := B.n
  have HR0 := rng_ask hv
  obtain ⟨⟨b1, b2, b3, b4⟩, hask⟩ := HR0
  have H1 : Hd (inB low (-32768) 32767 = true) := ⟨inB_mk b3 (by omega)⟩
  have H2 : Hd (inB high (-32768) 32767 = true) := ⟨inB_mk (by omega) b4⟩
  have H3 : Hd (inB high low (low + 100) = true) := ⟨inB_mk b1 b2⟩
  have hw : IntKind.i64.wrap (low + 100) = low + 100 := IntWalk.i64_in _ (by omega)
  obtain ⟨n, hn⟩ : ∃ n, n = rngN low high := ⟨_, rfl⟩
  have hn1 : (n : Int) ≤ high - low + 1 := by rw [hn]; unfold rngN; omega
  have hn2 : high - low + 1 ≤ (n : Int) := by rw [hn]; unfold rngN; omega
  have HN := Hd.mk hn
  have HB := Hd.mk hbs
  obtain ⟨Af, hAf⟩ : ∃ Af : Nat → List Int, Af = pArg L fn fu low := ⟨_, rfl⟩
  obtain ⟨Vf, hVf⟩ : ∃ Vf : Nat → List Int, Vf = pVal L fn fu low := ⟨_, rfl⟩
  have HA0 : Hd (Af 0 = []) := ⟨by rw [hAf]; rfl⟩
  have HV0 : Hd (Vf 0 = []) := ⟨by rw [hVf]; rfl⟩
  have HAL : Hd (∀ i : Nat, (Af i).length ≤ i) := ⟨fun i => by rw [hAf]; exact pArg_len ..⟩
  have HVL : Hd (∀ i : Nat, (Vf i).length ≤ i) := ⟨fun i => by rw [hVf]; exact pVal_len ..⟩
  have HYA : Hd (∀ i : Nat, (ranM L fn (low + i) fu).kind = 2 → Af (i + 1) = Af i ++ [low + (i : Int)]) := ⟨fun i h => by rw [hAf]; exact pArg_yes (by rw [Int.toNat_natCast]; exact h)⟩
  have HYV : Hd (∀ i : Nat, (ranM L fn (low + i) fu).kind = 2 → Vf (i + 1) = Vf i ++ [(ranM L fn (low + i) fu).val]) := ⟨fun i h => by rw [hVf, pVal_yes (by rw [Int.toNat_natCast]; exact h), Int.toNat_natCast]⟩
  have HNA : Hd (∀ i : Nat, (ranM L fn (low + i) fu).kind ≠ 2 → Af (i + 1) = Af i) := ⟨fun i h => by rw [hAf]; exact pArg_no (by rw [Int.toNat_natCast]; exact h)⟩
  have HNV : Hd (∀ i : Nat, (ranM L fn (low + i) fu).kind ≠ 2 → Vf (i + 1) = Vf i) := ⟨fun i h => by rw [hVf]; exact pVal_no (by rw [Int.toNat_natCast]; exact h)⟩
  have HASK : Hd (∀ i : Nat, i < n → askB L fn (low + i) fu = true) := ⟨fun i h => hask _ (by omega) (by omega)⟩
  have hnl : n ≤ 101 := by omega
  rw [← hn, ← hAf, ← hVf]
  clear hn hbs hv hask hAf hVf
  go_enter Try.func57, Try.ntmps57
  go_wp2_with fail
  refine (impl_isNumber low true _ H1.out).mono ?_
  rintro e wz ⟨rfl, hz⟩
  have hz2 := hz.symm
  subst hz2
  clear hz
  go_wp2_with fail
  refine (impl_isNumber high true _ H2.out).mono ?_
  rintro e wz ⟨rfl, hz⟩
  have hz2 := hz.symm
  subst hz2
  clear hz
  go_wp2_with fail
  refine (impl_in high low (low + 100) true _ H3.out).mono ?_
  rintro e wz ⟨rfl, hz⟩
  have hz2 := hz.symm
  subst hz2
  clear hz
  go_wp2
  go_loopw [13, 14, 15] (fun v13 v14 v15 wr => ∃ (i : Nat) (va vv : Value), i ≤ n ∧ v15 = .int .i64 (low + (i : Int)) ∧ v13 = va ∧ v14 = vv ∧ ExtI w wr ∧ SepI wr (Row 3 1 va (Af i).length (ints (Af i)) * (Row 3 1 vv (Vf i).length (ints (Vf i)) * (pts w.heap.size (.cells #[.slice A bs.length c] 31 (0, 0)) * S)))) (fun _ _ v _ => (high + 1 - intOf v).toNat)
  case atStart => exact ⟨0, .slice (some ⟨w.heap.size + 1, 0, none⟩) 0 0, .slice (some ⟨w.heap.size + 1 + 1, 0, none⟩) 0 0, Nat.zero_le _, by simp, rfl, rfl, inferInstance, by rw [HA0.out, HV0.out]; exact Row.lit0 (size := 1) (SepI.pick (A := pts (w.heap.size + 1) (.cells #[] 3 (0, 0))) (Row.lit0 (size := 1) (g := w.heap.size + 1 + 1) (e := 3) inferInstance) inferInstance)⟩
  case round =>
    obtain ⟨i, va, vv, hi, rfl, rfl, rfl, HX, HS3⟩ := hrel
    obtain ⟨A0, c0, rfl, hc0, hc1⟩ := Row.form HS3
    obtain ⟨B0, d0, rfl, hd0, hd1⟩ := Row.form HS3.right
    have hal := HAL.out i
    have hvl := HVL.out i
    by_cases hlt : i < n
    · have hle : low + (i : Int) ≤ high := by omega
      have hws : IntKind.i64.wrap (low + (i : Int) + 1) = low + (i : Int) + 1 := IntWalk.i64_in _ (by omega)
      have HAS := Hd.mk (HASK.out i hlt)
      have hya := HYA.out i
      have hyv := HYV.out i
      have hna := HNA.out i
      have hnv := HNV.out i
      obtain ⟨R, hR⟩ : ∃ R, ranM L fn (low + (i : Int)) fu = R := ⟨_, rfl⟩
      rw [hR] at hya hyv hna hnv
      have HR := Hd.mk hR
      clear hR
      have HYA' := Hd.mk hya
      have HYV' := Hd.mk hyv
      have HNA' := Hd.mk hna
      have HNV' := Hd.mk hnv
      clear hya hyv hna hnv
      go_wp2_with fail
      refine (impl_ranA _ _ A c bs fn (low + (i : Int)) fu L HB.out HAS.out).mono ?_
      rw [HR.out]
      rintro e w2 ⟨gm, x, rfl, hps, HP⟩
      clear hps
      have HS2 := HP.sep
      have HE2 := HP.ext
      clear HP
      rw [MachRC.moveZ, MachRC.moveZ] at HS2
      have M := MachRC.rd gm A bs.length c fu R x (pts w.heap.size (.cells #[.slice A bs.length c] 31 (0, 0)) * S)
      generalize MachRC gm A bs.length c fu R.m R.kind R.val x (pts w.heap.size (.cells #[.slice A bs.length c] 31 (0, 0)) * S) = S0 at HS2 M
      have i1 := M.blk
      have HOUT := Hd.mk M
      clear M
      obtain ⟨kd, hkd⟩ : ∃ kd, R.kind = kd := ⟨_, rfl⟩
      obtain ⟨vl, hvl'⟩ : ∃ vl, R.val = vl := ⟨_, rfl⟩
      rw [hkd, hvl'] at i1
      by_cases hk : kd = 2
      · subst hk
        have HOA : Hd (ints (Af i) ++ #[.int .i64 (low + (i : Int))].toList = ints (Af (i + 1))) := ⟨by rw [HYA'.out hkd, ints_append]; rfl⟩
        have HLA : Hd ((Af i).length + 1 = (Af (i + 1)).length) := ⟨by rw [HYA'.out hkd]; simp⟩
        have HOV : Hd (ints (Vf i) ++ #[.int .i64 vl].toList = ints (Vf (i + 1))) := ⟨by rw [HYV'.out hkd, ints_append, hvl']; rfl⟩
        have HLV : Hd ((Vf i).length + 1 = (Vf (i + 1)).length) := ⟨by rw [HYV'.out hkd]; simp⟩
        clear hkd hvl'
        go_wp2
        refine wp_region_W 11 14 (by kernel_rfl) (by kernel_rfl) (fun w' => w'.cell? ⟨gm, 13, none⟩ = some (.int .i64 vl)) (cb) (fun hHeld => ?_)
        refine tkp 0 hHeld ?_
        refine tkp 1 hHeld ?_
        refine tkp 4 hHeld ?_
        refine tkp 5 hHeld ?_
        refine tkp 6 hHeld ?_
        refine tkp 7 hHeld ?_
        refine tkp 8 hHeld ?_
        refine tkl 9 hHeld ?_
        refine wpAnyW_two false false (i := 2) (j := 10) (by kernel_rfl) rfl rfl (by kernel_rfl) (by kernel_rfl) (by rfl) (by rfl) (fun KK hKK => ?_) (fun KK hKK => ?_)
        · refine st_list rfl ?_
          go_wp2
          refine ⟨rfl, ?_⟩
          refine hKK.out _ _ (.inr (cb)) (fun hHeld => ?_)
          clear hKK KK
          try simp only [Act.put, List.setIfInBounds_toArray, List.set_cons_zero, List.set_cons_succ]
          refine wpAnyW_two false false (i := 3) (j := 10) (by kernel_rfl) rfl rfl (by kernel_rfl) (by kernel_rfl) (by rfl) (by rfl) (fun KK hKK => ?_) (fun KK hKK => ?_)
          · refine st_list rfl (ev_append (v := .slice A0 (Af i).length c0) rfl _ _ 26 rfl ?_ 8 _ Try.underlying26 info_int rfl (by decide) (by decide) (w2.heap.size) 1 1 ?_ rfl (by simp [Value.oneCell']) (by omega) ?_)
            rfl
            rfl
            intro v3 wA HSA HEA
            replace HSA := Row.as HSA HLA.out HOA.out
            refine ⟨rfl, ?_⟩
            refine hKK.out _ _ (.inr (cb)) (fun hHeld => ?_)
            clear hKK KK
            try simp only [Act.put, List.setIfInBounds_toArray, List.set_cons_zero, List.set_cons_succ]
            refine wpAnyW_one false (i := 10) (by kernel_rfl) rfl (by kernel_rfl) (by rfl) (fun KK hKK => ?_)
            refine st_list rfl ?_
            go_wp2
            refine ⟨rfl, ?_⟩
            refine hKK.out _ _ (.inr (cb)) (fun hHeld => ?_)
            clear hKK KK
            try simp only [Act.put, List.setIfInBounds_toArray, List.set_cons_zero, List.set_cons_succ]
            refine wpAnyW_done (by kernel_rfl) ?_
            refine ev_append (v := .slice B0 (Vf i).length d0) rfl _ _ 26 rfl ?_ 8 _ Try.underlying26 info_int rfl (by decide) (by decide) (wA.heap.size) 1 1 ?_ rfl (by simp [Value.oneCell']) (by omega) ?_
            rfl
            rfl
            intro v4 wV HSV HEV
            replace HSV := Row.as HSV HLV.out HOV.out
            go_wp2
            go_roundw
            case rel => exact ⟨i + 1, v3, v4, by omega, by go_num, rfl, rfl, inferInstance, SepI.cast (HOUT.out.out (SepI.cast (Ent.sep (S := _) (T := Row 3 1 v3 (Af (i + 1)).length (ints (Af (i + 1))) * (Row 3 1 v4 (Vf (i + 1)).length (ints (Vf (i + 1))) * S0)) inferInstance inferInstance) (star_assoc _ _ _).symm)) (star_assoc _ _ _)⟩
            case measure => (simp [intOf]; try omega)
          · refine st_list rfl ?_
            go_wp2
            refine ⟨rfl, ?_⟩
            refine hKK.out _ _ (.inr (cb)) (fun hHeld => ?_)
            clear hKK KK
            try simp only [Act.put, List.setIfInBounds_toArray, List.set_cons_zero, List.set_cons_succ]
            refine wpAnyW_one false (i := 3) (by kernel_rfl) rfl (by kernel_rfl) (by rfl) (fun KK hKK => ?_)
            refine st_list rfl (ev_append (v := .slice A0 (Af i).length c0) rfl _ _ 26 rfl ?_ 8 _ Try.underlying26 info_int rfl (by decide) (by decide) (w2.heap.size) 1 1 ?_ rfl (by simp [Value.oneCell']) (by omega) ?_)
            rfl
            rfl
            intro v3 wA HSA HEA
            replace HSA := Row.as HSA HLA.out HOA.out
            refine ⟨rfl, ?_⟩
            refine hKK.out _ _ (.inr (cb)) (fun hHeld => ?_)
            clear hKK KK
            try simp only [Act.put, List.setIfInBounds_toArray, List.set_cons_zero, List.set_cons_succ]
            refine wpAnyW_done (by kernel_rfl) ?_
            refine ev_append (v := .slice B0 (Vf i).length d0) rfl _ _ 26 rfl ?_ 8 _ Try.underlying26 info_int rfl (by decide) (by decide) (w2.heap.size + 1) 1 1 ?_ rfl (by simp [Value.oneCell']) (by omega) ?_
            rfl
            rfl
            intro v4 wV HSV HEV
            replace HSV := Row.as HSV HLV.out HOV.out
            go_wp2
            go_roundw
            case rel => exact ⟨i + 1, v3, v4, by omega, by go_num, rfl, rfl, inferInstance, SepI.cast (HOUT.out.out (SepI.cast (Ent.sep (S := _) (T := Row 3 1 v3 (Af (i + 1)).length (ints (Af (i + 1))) * (Row 3 1 v4 (Vf (i + 1)).length (ints (Vf (i + 1))) * S0)) inferInstance inferInstance) (star_assoc _ _ _).symm)) (star_assoc _ _ _)⟩
            case measure => (simp [intOf]; try omega)
        · refine st_list rfl ?_
          go_wp2
          refine ⟨rfl, ?_⟩
          refine hKK.out _ _ (.inr (cb)) (fun hHeld => ?_)
          clear hKK KK
          try simp only [Act.put, List.setIfInBounds_toArray, List.set_cons_zero, List.set_cons_succ]
          refine wpAnyW_one false (i := 2) (by kernel_rfl) rfl (by kernel_rfl) (by rfl) (fun KK hKK => ?_)
          refine st_list rfl ?_
          go_wp2
          refine ⟨rfl, ?_⟩
          refine hKK.out _ _ (.inr (cb)) (fun hHeld => ?_)
          clear hKK KK
          try simp only [Act.put, List.setIfInBounds_toArray, List.set_cons_zero, List.set_cons_succ]
          refine wpAnyW_one false (i := 3) (by kernel_rfl) rfl (by kernel_rfl) (by rfl) (fun KK hKK => ?_)
          refine st_list rfl (ev_append (v := .slice A0 (Af i).length c0) rfl _ _ 26 rfl ?_ 8 _ Try.underlying26 info_int rfl (by decide) (by decide) (w2.heap.size + 1) 1 1 ?_ rfl (by simp [Value.oneCell']) (by omega) ?_)
          rfl
          rfl
          intro v3 wA HSA HEA
          replace HSA := Row.as HSA HLA.out HOA.out
          refine ⟨rfl, ?_⟩
          refine hKK.out _ _ (.inr (cb)) (fun hHeld => ?_)
          clear hKK KK
          try simp only [Act.put, List.setIfInBounds_toArray, List.set_cons_zero, List.set_cons_succ]
          refine wpAnyW_done (by kernel_rfl) ?_
          refine ev_append (v := .slice B0 (Vf i).length d0) rfl _ _ 26 rfl ?_ 8 _ Try.underlying26 info_int rfl (by decide) (by decide) (w2.heap.size) 1 1 ?_ rfl (by simp [Value.oneCell']) (by omega) ?_
          rfl
          rfl
          intro v4 wV HSV HEV
          replace HSV := Row.as HSV HLV.out HOV.out
          go_wp2
          go_roundw
          case rel => exact ⟨i + 1, v3, v4, by omega, by go_num, rfl, rfl, inferInstance, SepI.cast (HOUT.out.out (SepI.cast (Ent.sep (S := _) (T := Row 3 1 v3 (Af (i + 1)).length (ints (Af (i + 1))) * (Row 3 1 v4 (Vf (i + 1)).length (ints (Vf (i + 1))) * S0)) inferInstance inferInstance) (star_assoc _ _ _).symm)) (star_assoc _ _ _)⟩
          case measure => (simp [intOf]; try omega)
      · have hkb : (kd == 2) = false := beq_eq_false_iff_ne.2 hk
        have HEA : Hd (Af (i + 1) = Af i) := ⟨HNA'.out (by rw [hkd]; exact hk)⟩
        have HEV : Hd (Vf (i + 1) = Vf i) := ⟨HNV'.out (by rw [hkd]; exact hk)⟩
        clear hkd hvl' hk
        go_wp2
        go_roundw
        case rel => exact ⟨i + 1, _, _, by omega, by go_num, rfl, rfl, inferInstance, by rw [HEA.out, HEV.out]; exact SepI.cast (HOUT.out.out (SepI.cast HS2 (star_assoc _ _ _).symm)) (star_assoc _ _ _)⟩
        case measure => (simp [intOf]; try omega)
    · have hle : high < low + (i : Int) := by omega
      have : i = n := by omega
      subst this
      go_wp2_with fail
      have HS4 := SepI.pick (A := Row 3 1 (.slice B0 (Vf i).length d0) (Vf i).length (ints (Vf i))) HS3 inferInstance
      refine (ascendingI _ _ B0 d0 (Vf i) HS4 (by omega)).mono ?_
      rintro e w5 ⟨v5, rfl, HP⟩
      have HS5 := HP.sep
      have HE5 := HP.ext
      clear HP
      go_wp2
      refine bodyPost_ret (v := .tuple #[.slice A0 (Af i).length c0, v5, .bool true]) (by simp [results, Try.results57, go_sem]) rfl ?_
      exact ⟨_, _, rfl, Post.mk' (Ent.sep (S := _) inferInstance inferInstance) inferInstance⟩
set_option maxRecDepth 100000 in
set_option maxHeartbeats 8000000 in
theorem impl_PanickingArgsN (S : HP) (w : World) [H : SepI w S] (A : Option Addr) (c : Nat) (bs : List Bd) [r : Rd S A (cBds bs)] [B : Bodies S bs] (fn low high fuel : Int) (hv : rngB (bs.map (·.l)) fn low high fuel = false) :
    Calls Try.prog 18 #[.agg #[.slice A bs.length c], .int .i64 fn, .int .i64 low, .int .i64 high, .int .i64 fuel] w (IntsOk S [] false w) := by
  have HV := Hd.mk hv
  clear hv
  go_enter Try.func18, Try.ntmps18
  go_wp2_with fail
  refine (impl_panickingN _ _ A c bs fn low high fuel HV.out).mono ?_
  rintro e w1 ⟨rfl, HP⟩
  have HS1 := HP.sep
  have HE1 := HP.ext
  clear HP
  go_wp2
  go_ret2
  exact IntsOk.nil (v := .slice none 0 0) (Post.mk' (Ent.sep (S := _) inferInstance (Row.nil0 HS1 3 1)) inferInstance)
set_option maxRecDepth 100000 in
set_option maxHeartbeats 8000000 in
theorem impl_PanickingArgsV (S : HP) (w : World) [H : SepI w S] (A : Option Addr) (c : Nat) (bs : List Bd) [r : Rd S A (cBds bs)] [B : Bodies S bs] (fn low high : Int) (fu : Nat) (L : List (List St)) (hbs : bs.map (·.l) = L) (hv : rngB L fn low high fu = true) :
    Calls Try.prog 18 #[.agg #[.slice A bs.length c], .int .i64 fn, .int .i64 low, .int .i64 high, .int .i64 fu] w (IntsOk S (pArg L fn fu low (rngN low high)) true w) := by
  have HV := Hd.mk hv
  have HB := Hd.mk hbs
  clear hv hbs
  go_enter Try.func18, Try.ntmps18
  go_wp2_with fail
  refine (impl_panickingV _ _ A c bs fn low high fu L HB.out HV.out).mono ?_
  rintro e w1 ⟨v1, v2, rfl, HP⟩
  have HS1 := HP.sep
  have HE1 := HP.ext
  clear HP
  go_wp2
  go_ret2
  exact IntsOk.of (v := v1) (Post.mk' (Ent.sep (S := _) inferInstance inferInstance) inferInstance)
set_option maxRecDepth 100000 in
set_option maxHeartbeats 8000000 in
theorem impl_PanicValuesN (S : HP) (w : World) [H : SepI w S] (A : Option Addr) (c : Nat) (bs : List Bd) [r : Rd S A (cBds bs)] [B : Bodies S bs] (fn low high fuel : Int) (hv : rngB (bs.map (·.l)) fn low high fuel = false) :
    Calls Try.prog 25 #[.agg #[.slice A bs.length c], .int .i64 fn, .int .i64 low, .int .i64 high, .int .i64 fuel] w (IntsOk S [] false w) := by
  have HV := Hd.mk hv
  clear hv
  go_enter Try.func25, Try.ntmps25
  go_wp2_with fail
  refine (impl_panickingN _ _ A c bs fn low high fuel HV.out).mono ?_
  rintro e w1 ⟨rfl, HP⟩
  have HS1 := HP.sep
  have HE1 := HP.ext
  clear HP
  go_wp2
  go_ret2
  exact IntsOk.nil (v := .slice none 0 0) (Post.mk' (Ent.sep (S := _) inferInstance (Row.nil0 HS1 3 1)) inferInstance)
set_option maxRecDepth 100000 in
set_option maxHeartbeats 8000000 in
theorem impl_PanicValuesV (S : HP) (w : World) [H : SepI w S] (A : Option Addr) (c : Nat) (bs : List Bd) [r : Rd S A (cBds bs)] [B : Bodies S bs] (fn low high : Int) (fu : Nat) (L : List (List St)) (hbs : bs.map (·.l) = L) (hv : rngB L fn low high fu = true) :
    Calls Try.prog 25 #[.agg #[.slice A bs.length c], .int .i64 fn, .int .i64 low, .int .i64 high, .int .i64 fu] w (IntsOk S (ascA (pVal L fn fu low (rngN low high))) true w) := by
  have HV := Hd.mk hv
  have HB := Hd.mk hbs
  clear hv hbs
  go_enter Try.func25, Try.ntmps25
  go_wp2_with fail
  refine (impl_panickingV _ _ A c bs fn low high fu L HB.out HV.out).mono ?_
  rintro e w1 ⟨v1, v2, rfl, HP⟩
  have HS1 := HP.sep
  have HE1 := HP.ext
  clear HP
  go_wp2
  go_ret2
  exact IntsOk.of (v := v2) (Post.mk' (Ent.sep (S := _) inferInstance inferInstance) inferInstance)
set_option maxRecDepth 100000 in
set_option maxHeartbeats 8000000 in
theorem spec_l4Range (S : HP) (w : World) [H : SepI w S] (A : Option Addr) (c : Nat) (bs : List Bd) [r : Rd S A (cBds bs)] [B : Bodies S bs] (fn low high fuel : Int) (v : Bool) (hv : rngB (bs.map (·.l)) fn low high fuel = v) :
    Calls Try.prog 54 #[.agg #[.slice A bs.length c], .int .i64 fn, .int .i64 low, .int .i64 high, .int .i64 fuel] w fun e w' => e = .returned (.bool v) ∧ Post w S w' := by
  have hbn := B.n
  obtain ⟨q1, hq1⟩ : ∃ q1, askB (bs.map (·.l)) fn low fuel = q1 := ⟨_, rfl⟩
  obtain ⟨q2, hq2⟩ : ∃ q2, inB high (-32768) 32767 = q2 := ⟨_, rfl⟩
  obtain ⟨q3, hq3⟩ : ∃ q3, inB (high - low) 0 100 = q3 := ⟨_, rfl⟩
  have hq4 : inB high low (low + 100) = q3 := by
    rw [← hq3]
    unfold inB
    apply decide_eq_decide.2
    constructor <;> intro h <;> omega
  have hvv : v = (q1 && (q2 && q3)) := by rw [← hv]; unfold rngB; rw [hq1, hq2, hq4]
  subst hvv
  have H1 := Hd.mk hq1
  have H2 := Hd.mk hq2
  have H3 := Hd.mk hq3
  clear hv hq1 hq2 hq3 hq4
  cases q1
  · clear H2 H3
    go_enter Try.func54, Try.ntmps54
    go_wp2_with fail
    refine (spec_l2Ask _ _ A c bs fn low fuel _ H1.out).mono ?_
    rintro e w1 ⟨rfl, HP⟩
    have HS1 := HP.sep
    have HE1 := HP.ext
    clear HP
    go_wp2
    go_ret
    exact ⟨rfl, Post.mk' (Ent.sep (S := _) inferInstance inferInstance) inferInstance⟩
  · have hb1 := (askB_of H1.out).2.2.1
    have hb1a := hb1.1
    have hb1b := hb1.2
    clear hb1
    cases q2
    · clear H3
      go_enter Try.func54, Try.ntmps54
      go_wp2_with fail
      refine (spec_l2Ask _ _ A c bs fn low fuel _ H1.out).mono ?_
      rintro e w1 ⟨rfl, HP⟩
      have HS1 := HP.sep
      have HE1 := HP.ext
      clear HP
      go_wp2_with fail
      refine (spec_l2Number _ _ _ H2.out).mono ?_
      rintro e wz ⟨rfl, hz⟩
      have hz2 := hz.symm
      subst hz2
      clear hz
      go_wp2
      go_ret
      exact ⟨rfl, Post.mk' (Ent.sep (S := _) inferInstance inferInstance) inferInstance⟩
    · have hb2 := inB_true H2.out
      have hwl : IntKind.i64.wrap (high - low) = high - low := IntWalk.i64_in _ (by omega)
      go_enter Try.func54, Try.ntmps54
      go_wp2_with fail
      refine (spec_l2Ask _ _ A c bs fn low fuel _ H1.out).mono ?_
      rintro e w1 ⟨rfl, HP⟩
      have HS1 := HP.sep
      have HE1 := HP.ext
      clear HP
      go_wp2_with fail
      refine (spec_l2Number _ _ _ H2.out).mono ?_
      rintro e wz ⟨rfl, hz⟩
      have hz2 := hz.symm
      subst hz2
      clear hz
      go_wp2_with fail
      refine (spec_in _ _ _ _ _ H3.out).mono ?_
      rintro e wz ⟨rfl, hz⟩
      have hz2 := hz.symm
      subst hz2
      clear hz
      go_wp2
      go_ret
      exact ⟨rfl, Post.mk' (Ent.sep (S := _) inferInstance inferInstance) inferInstance⟩
set_option maxRecDepth 100000 in
set_option maxHeartbeats 8000000 in
theorem spec_PanickingArgsN (S : HP) (w : World) [H : SepI w S] (A : Option Addr) (c : Nat) (bs : List Bd) [r : Rd S A (cBds bs)] [B : Bodies S bs] (fn low high fuel : Int) (hv : rngB (bs.map (·.l)) fn low high fuel = false) :
    Calls Try.prog 16 #[.agg #[.slice A bs.length c], .int .i64 fn, .int .i64 low, .int .i64 high, .int .i64 fuel] w (IntsOk S [] false w) := by
  have hbn := B.n
  have HV := Hd.mk hv
  clear hv
  have hnot : ∀ (x : Bool) (w : World), (Op.unary .not (.bool x)).run Try.prog w = .ok (.bool (!x)) w := fun _ _ => rfl
  go_enter Try.func16, Try.ntmps16
  go_wp2_with fail
  refine (spec_l4Range _ _ A c bs fn low high fuel _ HV.out).mono ?_
  rintro e w1 ⟨rfl, HP⟩
  have HS1 := HP.sep
  have HE1 := HP.ext
  clear HP
  go_wp2
  go_ret2
  exact IntsOk.nil (v := .slice (some ⟨w.heap.size + 1, 0, none⟩) 0 0) (Post.mk' (Ent.sep (S := _) inferInstance (Row.lit0 (size := 1) HS1)) inferInstance)
set_option maxRecDepth 100000 in
set_option maxHeartbeats 8000000 in
theorem spec_PanicValuesN (S : HP) (w : World) [H : SepI w S] (A : Option Addr) (c : Nat) (bs : List Bd) [r : Rd S A (cBds bs)] [B : Bodies S bs] (fn low high fuel : Int) (hv : rngB (bs.map (·.l)) fn low high fuel = false) :
    Calls Try.prog 24 #[.agg #[.slice A bs.length c], .int .i64 fn, .int .i64 low, .int .i64 high, .int .i64 fuel] w (IntsOk S [] false w) := by
  have hbn := B.n
  have HV := Hd.mk hv
  clear hv
  have hnot : ∀ (x : Bool) (w : World), (Op.unary .not (.bool x)).run Try.prog w = .ok (.bool (!x)) w := fun _ _ => rfl
  go_enter Try.func24, Try.ntmps24
  go_wp2_with fail
  refine (spec_l4Range _ _ A c bs fn low high fuel _ HV.out).mono ?_
  rintro e w1 ⟨rfl, HP⟩
  have HS1 := HP.sep
  have HE1 := HP.ext
  clear HP
  go_wp2
  go_ret2
  exact IntsOk.nil (v := .slice (some ⟨w.heap.size + 1, 0, none⟩) 0 0) (Post.mk' (Ent.sep (S := _) inferInstance (Row.lit0 (size := 1) HS1)) inferInstance)
set_option maxRecDepth 100000 in
set_option maxHeartbeats 8000000 in
theorem spec_PanickingArgsV (S : HP) (w : World) [H : SepI w S] (A : Option Addr) (c : Nat) (bs : List Bd) [r : Rd S A (cBds bs)] [B : Bodies S bs] (hnn : NoneNil bs) (fn low high : Int) (fu : Nat) (L : List (List St)) (hbs : bs.map (·.l) = L) (hv : rngB L fn low high fu = true) :
    Calls Try.prog 16 #[.agg #[.slice A bs.length c], .int .i64 fn, .int .i64 low, .int .i64 high, .int .i64 fu] w (IntsOk S (pArg L fn fu low (rngN low high)) true w) := by
  have hbn := B.n
  have HNN := Hd.mk hnn
  have HRV : Hd (rngB (bs.map (·.l)) fn low high fu = true) := ⟨by rw [hbs]; exact hv⟩
  have HR0 := rng_ask hv
  obtain ⟨⟨b1, b2, b3, b4⟩, hask⟩ := HR0
  have H1 : Hd (inB low (-32768) 32767 = true) := ⟨inB_mk b3 (by omega)⟩
  have H2 : Hd (inB high (-32768) 32767 = true) := ⟨inB_mk (by omega) b4⟩
  have H3 : Hd (inB high low (low + 100) = true) := ⟨inB_mk b1 b2⟩
  have hw : IntKind.i64.wrap (low + 100) = low + 100 := IntWalk.i64_in _ (by omega)
  obtain ⟨n, hn⟩ : ∃ n, n = rngN low high := ⟨_, rfl⟩
  have hn1 : (n : Int) ≤ high - low + 1 := by rw [hn]; unfold rngN; omega
  have hn2 : high - low + 1 ≤ (n : Int) := by rw [hn]; unfold rngN; omega
  have HN := Hd.mk hn
  have HB := Hd.mk hbs
  obtain ⟨Af, hAf⟩ : ∃ Af : Nat → List Int, Af = pArg L fn fu low := ⟨_, rfl⟩
  obtain ⟨Vf, hVf⟩ : ∃ Vf : Nat → List Int, Vf = pVal L fn fu low := ⟨_, rfl⟩
  have HA0 : Hd (Af 0 = []) := ⟨by rw [hAf]; rfl⟩
  have HV0 : Hd (Vf 0 = []) := ⟨by rw [hVf]; rfl⟩
  have HAL : Hd (∀ i : Nat, (Af i).length ≤ i) := ⟨fun i => by rw [hAf]; exact pArg_len ..⟩
  have HVL : Hd (∀ i : Nat, (Vf i).length ≤ i) := ⟨fun i => by rw [hVf]; exact pVal_len ..⟩
  have HYA : Hd (∀ i : Nat, (ranM L fn (low + i) fu).kind = 2 → Af (i + 1) = Af i ++ [low + (i : Int)]) := ⟨fun i h => by rw [hAf]; exact pArg_yes (by rw [Int.toNat_natCast]; exact h)⟩
  have HYV : Hd (∀ i : Nat, (ranM L fn (low + i) fu).kind = 2 → Vf (i + 1) = Vf i ++ [(ranM L fn (low + i) fu).val]) := ⟨fun i h => by rw [hVf, pVal_yes (by rw [Int.toNat_natCast]; exact h), Int.toNat_natCast]⟩
  have HNA : Hd (∀ i : Nat, (ranM L fn (low + i) fu).kind ≠ 2 → Af (i + 1) = Af i) := ⟨fun i h => by rw [hAf]; exact pArg_no (by rw [Int.toNat_natCast]; exact h)⟩
  have HNV : Hd (∀ i : Nat, (ranM L fn (low + i) fu).kind ≠ 2 → Vf (i + 1) = Vf i) := ⟨fun i h => by rw [hVf]; exact pVal_no (by rw [Int.toNat_natCast]; exact h)⟩
  have HASK : Hd (∀ i : Nat, i < n → askB L fn (low + i) fu = true) := ⟨fun i h => hask _ (by omega) (by omega)⟩
  have hnl : n ≤ 101 := by omega
  rw [← hn, ← hAf]
  clear hn hbs hv hask hAf hVf hnn H1 H2 H3 hw
  have hnot : ∀ (x : Bool) (w : World), (Op.unary .not (.bool x)).run Try.prog w = .ok (.bool (!x)) w := fun _ _ => rfl
  go_enter Try.func16, Try.ntmps16
  go_wp2_with fail
  refine (spec_l4Range _ _ A c bs fn low high fu _ HRV.out).mono ?_
  rintro e w1 ⟨rfl, HP⟩
  have HS1 := HP.sep
  have HE1 := HP.ext
  clear HP
  have HS2 := Row.lit0 (size := 1) HS1
  clear HS1
  go_wp2
  go_loopw [12, 13] (fun v12 v13 wr => ∃ (i g cc : Nat), i ≤ n ∧ v13 = .int .i64 (low + (i : Int)) ∧ v12 = .slice (some ⟨g, 0, none⟩) (Af i).length cc ∧ ExtI w wr ∧ SepI wr (Row 3 1 (.slice (some ⟨g, 0, none⟩) (Af i).length cc) (Af i).length (ints (Af i)) * (pts w.heap.size (.cells #[.slice A bs.length c] 31 (0, 0)) * S))) (fun _ v _ => (high + 1 - intOf v).toNat)
  case atStart => exact ⟨0, w.heap.size + 1, 0, Nat.zero_le _, by simp, by rw [HA0.out]; rfl, inferInstance, by rw [HA0.out]; exact HS2⟩
  case round =>
    obtain ⟨i, g, cc, hi, rfl, rfl, HX, HS3⟩ := hrel
    have hal := HAL.out i
    by_cases hlt : i < n
    · have hle : low + (i : Int) ≤ high := by omega
      have hws : IntKind.i64.wrap (low + (i : Int) + 1) = low + (i : Int) + 1 := IntWalk.i64_in _ (by omega)
      have HAS := Hd.mk (HASK.out i hlt)
      have hya := HYA.out i
      have hna := HNA.out i
      obtain ⟨R, hR⟩ : ∃ R, ranM L fn (low + (i : Int)) fu = R := ⟨_, rfl⟩
      rw [hR] at hya hna
      have HR := Hd.mk hR
      clear hR
      have HYA' := Hd.mk hya
      have HNA' := Hd.mk hna
      clear hya hna
      go_wp2_with fail
      refine (spec_runX _ _ A c bs HNN.out fn (low + (i : Int)) fu L HB.out HAS.out).mono ?_
      rw [HR.out]
      rintro e w2 ⟨At, ct, rfl, HP⟩
      have HS2 := HP.sep
      have HE2 := HP.ext
      clear HP
      obtain ⟨kd, hkd⟩ : ∃ kd, R.kind = kd := ⟨_, rfl⟩
      obtain ⟨vl, hvl'⟩ : ∃ vl, R.val = vl := ⟨_, rfl⟩
      rw [hkd, hvl']
      try simp only []
      rename_i hK
      refine hK _ _ ?_
      clear hK
      refine ev_val rfl _ rfl ?_
      by_cases hk : kd = 2
      · subst hk
        have HOA : Hd (ints (Af i) ++ #[.int .i64 (low + (i : Int))].toList = ints (Af (i + 1))) := ⟨by rw [HYA'.out hkd, ints_append]; rfl⟩
        have HLA : Hd ((Af i).length + 1 = (Af (i + 1)).length) := ⟨by rw [HYA'.out hkd]; simp⟩
        have hpos : 0 < (Af (i + 1)).length := by rw [← HLA.out]; omega
        clear hkd hvl'
        go_wp2_with (at_builtin; go_must (refine ev_append (v := .slice (some ⟨g, 0, none⟩) (Af i).length cc) rfl _ _ 26 rfl rfl 8 _ Try.underlying26 info_int rfl (by decide) (by decide) (w2.heap.size) 1 1 rfl rfl (by simp [Value.oneCell']) (by omega) ?_); intro v1 w4 HS4 HE4; replace HS4 := Row.as HS4 HLA.out HOA.out; obtain ⟨A9, c9, rfl, _, _⟩ := Row.form HS4; obtain ⟨g9, rfl⟩ := Row.addr HS4 hpos)
        go_roundw
        case rel => exact ⟨i + 1, g9, c9, by omega, by go_num, rfl, inferInstance, Ent.sep (S := _) inferInstance HS4⟩
        case measure => (simp [intOf]; try omega)
      · have hkb : (kd == 2) = false := beq_eq_false_iff_ne.2 hk
        have HEA : Hd (Af (i + 1) = Af i) := ⟨HNA'.out (by rw [hkd]; exact hk)⟩
        clear hkd hvl' hk
        go_wp2
        go_roundw
        case rel => exact ⟨i + 1, g, cc, by omega, by go_num, by rw [HEA.out], inferInstance, by rw [HEA.out]; exact Ent.sep (S := _) inferInstance inferInstance⟩
        case measure => (simp [intOf]; try omega)
    · have hle : high < low + (i : Int) := by omega
      have : i = n := by omega
      subst this
      go_wp2
      go_ret2
      exact IntsOk.of (v := .slice (some ⟨g, 0, none⟩) (Af i).length cc) (Post.mk' (Ent.sep (S := _) inferInstance inferInstance) inferInstance)
set_option maxRecDepth 100000 in
set_option maxHeartbeats 8000000 in
theorem spec_PanicValuesV (S : HP) (w : World) [H : SepI w S] (A : Option Addr) (c : Nat) (bs : List Bd) [r : Rd S A (cBds bs)] [B : Bodies S bs] (hnn : NoneNil bs) (fn low high : Int) (fu : Nat) (L : List (List St)) (hbs : bs.map (·.l) = L) (hv : rngB L fn low high fu = true) :
    Calls Try.prog 24 #[.agg #[.slice A bs.length c], .int .i64 fn, .int .i64 low, .int .i64 high, .int .i64 fu] w (IntsOk S (ascA (pVal L fn fu low (rngN low high))) true w) := by
  have hbn := B.n
  have HNN := Hd.mk hnn
  have HRV : Hd (rngB (bs.map (·.l)) fn low high fu = true) := ⟨by rw [hbs]; exact hv⟩
  have HR0 := rng_ask hv
  obtain ⟨⟨b1, b2, b3, b4⟩, hask⟩ := HR0
  have H1 : Hd (inB low (-32768) 32767 = true) := ⟨inB_mk b3 (by omega)⟩
  have H2 : Hd (inB high (-32768) 32767 = true) := ⟨inB_mk (by omega) b4⟩
  have H3 : Hd (inB high low (low + 100) = true) := ⟨inB_mk b1 b2⟩
  have hw : IntKind.i64.wrap (low + 100) = low + 100 := IntWalk.i64_in _ (by omega)
  obtain ⟨n, hn⟩ : ∃ n, n = rngN low high := ⟨_, rfl⟩
  have hn1 : (n : Int) ≤ high - low + 1 := by rw [hn]; unfold rngN; omega
  have hn2 : high - low + 1 ≤ (n : Int) := by rw [hn]; unfold rngN; omega
  have HN := Hd.mk hn
  have HB := Hd.mk hbs
  obtain ⟨Af, hAf⟩ : ∃ Af : Nat → List Int, Af = pArg L fn fu low := ⟨_, rfl⟩
  obtain ⟨Vf, hVf⟩ : ∃ Vf : Nat → List Int, Vf = pVal L fn fu low := ⟨_, rfl⟩
  have HA0 : Hd (Af 0 = []) := ⟨by rw [hAf]; rfl⟩
  have HV0 : Hd (Vf 0 = []) := ⟨by rw [hVf]; rfl⟩
  have HAL : Hd (∀ i : Nat, (Af i).length ≤ i) := ⟨fun i => by rw [hAf]; exact pArg_len ..⟩
  have HVL : Hd (∀ i : Nat, (Vf i).length ≤ i) := ⟨fun i => by rw [hVf]; exact pVal_len ..⟩
  have HYA : Hd (∀ i : Nat, (ranM L fn (low + i) fu).kind = 2 → Af (i + 1) = Af i ++ [low + (i : Int)]) := ⟨fun i h => by rw [hAf]; exact pArg_yes (by rw [Int.toNat_natCast]; exact h)⟩
  have HYV : Hd (∀ i : Nat, (ranM L fn (low + i) fu).kind = 2 → Vf (i + 1) = Vf i ++ [(ranM L fn (low + i) fu).val]) := ⟨fun i h => by rw [hVf, pVal_yes (by rw [Int.toNat_natCast]; exact h), Int.toNat_natCast]⟩
  have HNA : Hd (∀ i : Nat, (ranM L fn (low + i) fu).kind ≠ 2 → Af (i + 1) = Af i) := ⟨fun i h => by rw [hAf]; exact pArg_no (by rw [Int.toNat_natCast]; exact h)⟩
  have HNV : Hd (∀ i : Nat, (ranM L fn (low + i) fu).kind ≠ 2 → Vf (i + 1) = Vf i) := ⟨fun i h => by rw [hVf]; exact pVal_no (by rw [Int.toNat_natCast]; exact h)⟩
  have HASK : Hd (∀ i : Nat, i < n → askB L fn (low + i) fu = true) := ⟨fun i h => hask _ (by omega) (by omega)⟩
  have hnl : n ≤ 101 := by omega
  obtain ⟨Wf, hWf⟩ : ∃ Wf : Nat → List Int, Wf = fun i => ascA (Vf i) := ⟨_, rfl⟩
  have HW0 : Hd (Wf 0 = []) := ⟨by rw [hWf]; simp only; rw [HV0.out]; rfl⟩
  have HWL : Hd (∀ i : Nat, (Wf i).length ≤ i) := ⟨fun i => by rw [hWf]; exact Nat.le_trans (ascA_lenZ _) (HVL.out i)⟩
  have HWY : Hd (∀ i : Nat, (ranM L fn (low + i) fu).kind = 2 → Wf (i + 1) = putA (Wf i) (ranM L fn (low + i) fu).val) := ⟨fun i h => by rw [hWf]; simp only; rw [HYV.out i h, ascA_snocZ]⟩
  have HWN : Hd (∀ i : Nat, (ranM L fn (low + i) fu).kind ≠ 2 → Wf (i + 1) = Wf i) := ⟨fun i h => by rw [hWf]; simp only; rw [HNV.out i h]⟩
  have hans : ascA (pVal L fn fu low (rngN low high)) = Wf n := by rw [hWf, hn, hVf]
  rw [hans]
  clear hWf hans
  clear hn hbs hv hask hAf hVf hnn H1 H2 H3 hw
  have hnot : ∀ (x : Bool) (w : World), (Op.unary .not (.bool x)).run Try.prog w = .ok (.bool (!x)) w := fun _ _ => rfl
  go_enter Try.func24, Try.ntmps24
  go_wp2_with fail
  refine (spec_l4Range _ _ A c bs fn low high fu _ HRV.out).mono ?_
  rintro e w1 ⟨rfl, HP⟩
  have HS1 := HP.sep
  have HE1 := HP.ext
  clear HP
  have HS2 := Row.lit0 (size := 1) HS1
  clear HS1
  go_wp2
  go_loopw [12, 13] (fun v12 v13 wr => ∃ (i g cc : Nat), i ≤ n ∧ v13 = .int .i64 (low + (i : Int)) ∧ v12 = .slice (some ⟨g, 0, none⟩) (Wf i).length cc ∧ ExtI w wr ∧ SepI wr (Row 3 1 (.slice (some ⟨g, 0, none⟩) (Wf i).length cc) (Wf i).length (ints (Wf i)) * (pts w.heap.size (.cells #[.slice A bs.length c] 31 (0, 0)) * S))) (fun _ v _ => (high + 1 - intOf v).toNat)
  case atStart => exact ⟨0, w.heap.size + 1, 0, Nat.zero_le _, by simp, by rw [HW0.out]; rfl, inferInstance, by rw [HW0.out]; exact HS2⟩
  case round =>
    obtain ⟨i, g, cc, hi, rfl, rfl, HX, HS3⟩ := hrel
    have hal := HWL.out i
    by_cases hlt : i < n
    · have hle : low + (i : Int) ≤ high := by omega
      have hws : IntKind.i64.wrap (low + (i : Int) + 1) = low + (i : Int) + 1 := IntWalk.i64_in _ (by omega)
      have HAS := Hd.mk (HASK.out i hlt)
      have hya := HWY.out i
      have hna := HWN.out i
      obtain ⟨R, hR⟩ : ∃ R, ranM L fn (low + (i : Int)) fu = R := ⟨_, rfl⟩
      rw [hR] at hya hna
      have HR := Hd.mk hR
      clear hR
      have HYA' := Hd.mk hya
      have HNA' := Hd.mk hna
      clear hya hna
      go_wp2_with fail
      refine (spec_runX _ _ A c bs HNN.out fn (low + (i : Int)) fu L HB.out HAS.out).mono ?_
      rw [HR.out]
      rintro e w2 ⟨At, ct, rfl, HP⟩
      have HS2 := HP.sep
      have HE2 := HP.ext
      clear HP
      obtain ⟨kd, hkd⟩ : ∃ kd, R.kind = kd := ⟨_, rfl⟩
      obtain ⟨vl, hvl'⟩ : ∃ vl, R.val = vl := ⟨_, rfl⟩
      rw [hkd, hvl']
      by_cases hk : kd = 2
      · subst hk
        have HOA : Hd (putA (Wf i) vl = Wf (i + 1)) := ⟨by rw [HYA'.out hkd, hvl']⟩
        have hpos : 0 < (Wf (i + 1)).length := by rw [← HOA.out]; exact (putA_lenZ _ _).2
        clear hkd hvl'
        go_wp2_with fail
        refine (l1Put_some _ _ g cc (Wf i) (SepI.pick (A := Row 3 1 (.slice (some ⟨g, 0, none⟩) (Wf i).length cc) (Wf i).length (ints (Wf i))) inferInstance inferInstance) (by omega) vl).mono ?_
        rw [HOA.out]
        rintro e w4 ⟨v1, rfl, HP⟩
        have HS4 := HP.sep
        have HE4 := HP.ext
        clear HP
        obtain ⟨A9, c9, rfl, _, _⟩ := Row.form HS4
        obtain ⟨g9, rfl⟩ := Row.addr HS4 hpos
        go_wp2
        go_roundw
        case rel => exact ⟨i + 1, g9, c9, by omega, by go_num, rfl, inferInstance, Ent.sep (S := _) inferInstance HS4⟩
        case measure => (simp [intOf]; try omega)
      · have hkb : (kd == 2) = false := beq_eq_false_iff_ne.2 hk
        have HEA : Hd (Wf (i + 1) = Wf i) := ⟨HNA'.out (by rw [hkd]; exact hk)⟩
        clear hkd hvl' hk
        go_wp2
        go_roundw
        case rel => exact ⟨i + 1, g, cc, by omega, by go_num, by rw [HEA.out], inferInstance, by rw [HEA.out]; exact Ent.sep (S := _) inferInstance inferInstance⟩
        case measure => (simp [intOf]; try omega)
    · have hle : high < low + (i : Int) := by omega
      have : i = n := by omega
      subst this
      go_wp2
      go_ret2
      exact IntsOk.of (v := .slice (some ⟨g, 0, none⟩) (Wf i).length cc) (Post.mk' (Ent.sep (S := _) inferInstance inferInstance) inferInstance)
def ok_PanickingArgs (L : List (List St)) (fn low high fuel : Int) : Bool := rngB L fn low high fuel
def ans_PanickingArgs (L : List (List St)) (fn low high fuel : Int) : List Int := if rngB L fn low high fuel then pArg L fn fuel low (rngN low high) else []
theorem ans_PanickingArgs_no {L : List (List St)} {fn low high fuel : Int} (h : rngB L fn low high fuel = false) : ans_PanickingArgs L fn low high fuel = [] := by unfold ans_PanickingArgs; rw [h]; rfl
theorem ans_PanickingArgs_yes {L : List (List St)} {fn low high fuel : Int} (h : rngB L fn low high fuel = true) : ans_PanickingArgs L fn low high fuel = pArg L fn fuel low (rngN low high) := by unfold ans_PanickingArgs; rw [if_pos h]
theorem impl_PanickingArgsA (S : HP) (w : World) [H : SepI w S] (A : Option Addr) (c : Nat) (bs : List Bd) [r : Rd S A (cBds bs)] [B : Bodies S bs] (fn low high fuel : Int) :
    Calls Try.prog 18 #[.agg #[.slice A bs.length c], .int .i64 fn, .int .i64 low, .int .i64 high, .int .i64 fuel] w (IntsOk S (ans_PanickingArgs (bs.map (·.l)) fn low high fuel) (ok_PanickingArgs (bs.map (·.l)) fn low high fuel) w) := by
  obtain ⟨v, hv⟩ : ∃ v, rngB (bs.map (·.l)) fn low high fuel = v := ⟨_, rfl⟩
  have e : ok_PanickingArgs (bs.map (·.l)) fn low high fuel = v := hv
  rw [e]
  cases v
  · rw [ans_PanickingArgs_no hv]; exact impl_PanickingArgsN S w A c bs fn low high fuel hv
  · obtain ⟨fu, rfl⟩ : ∃ fu : Nat, fuel = fu := ⟨fuel.toNat, by have := (askB_of ((rng_ask hv).2 low (Int.le_refl _) (rng_ask hv).1.1)).2.2.2.1; omega⟩
    rw [ans_PanickingArgs_yes hv]; exact impl_PanickingArgsV S w A c bs fn low high fu _ rfl hv
theorem spec_PanickingArgsA (S : HP) (w : World) [H : SepI w S] (A : Option Addr) (c : Nat) (bs : List Bd) [r : Rd S A (cBds bs)] [B : Bodies S bs] (hnn : NoneNil bs) (fn low high fuel : Int) :
    Calls Try.prog 16 #[.agg #[.slice A bs.length c], .int .i64 fn, .int .i64 low, .int .i64 high, .int .i64 fuel] w (IntsOk S (ans_PanickingArgs (bs.map (·.l)) fn low high fuel) (ok_PanickingArgs (bs.map (·.l)) fn low high fuel) w) := by
  obtain ⟨v, hv⟩ : ∃ v, rngB (bs.map (·.l)) fn low high fuel = v := ⟨_, rfl⟩
  have e : ok_PanickingArgs (bs.map (·.l)) fn low high fuel = v := hv
  rw [e]
  cases v
  · rw [ans_PanickingArgs_no hv]; exact spec_PanickingArgsN S w A c bs fn low high fuel hv
  · obtain ⟨fu, rfl⟩ : ∃ fu : Nat, fuel = fu := ⟨fuel.toNat, by have := (askB_of ((rng_ask hv).2 low (Int.le_refl _) (rng_ask hv).1.1)).2.2.2.1; omega⟩
    rw [ans_PanickingArgs_yes hv]; exact spec_PanickingArgsV S w A c bs hnn fn low high fu _ rfl hv
theorem small_PanickingArgs (L : List (List St)) (fn low high fuel : Int) : (ans_PanickingArgs L fn low high fuel).length ≤ 1048576 := by
  obtain ⟨v, hv⟩ : ∃ v, rngB L fn low high fuel = v := ⟨_, rfl⟩
  cases v
  · rw [ans_PanickingArgs_no hv]; simp
  · rw [ans_PanickingArgs_yes hv]
    have h1 := (rng_ask hv).1
    have hn : rngN low high ≤ 101 := by unfold rngN; omega
    have h2 := pArg_len L fn fuel low (rngN low high)
    omega
def ok_PanicValues (L : List (List St)) (fn low high fuel : Int) : Bool := rngB L fn low high fuel
def ans_PanicValues (L : List (List St)) (fn low high fuel : Int) : List Int := if rngB L fn low high fuel then ascA (pVal L fn fuel low (rngN low high)) else []
theorem ans_PanicValues_no {L : List (List St)} {fn low high fuel : Int} (h : rngB L fn low high fuel = false) : ans_PanicValues L fn low high fuel = [] := by unfold ans_PanicValues; rw [h]; rfl
theorem ans_PanicValues_yes {L : List (List St)} {fn low high fuel : Int} (h : rngB L fn low high fuel = true) : ans_PanicValues L fn low high fuel = ascA (pVal L fn fuel low (rngN low high)) := by unfold ans_PanicValues; rw [if_pos h]
theorem impl_PanicValuesA (S : HP) (w : World) [H : SepI w S] (A : Option Addr) (c : Nat) (bs : List Bd) [r : Rd S A (cBds bs)] [B : Bodies S bs] (fn low high fuel : Int) :
    Calls Try.prog 25 #[.agg #[.slice A bs.length c], .int .i64 fn, .int .i64 low, .int .i64 high, .int .i64 fuel] w (IntsOk S (ans_PanicValues (bs.map (·.l)) fn low high fuel) (ok_PanicValues (bs.map (·.l)) fn low high fuel) w) := by
  obtain ⟨v, hv⟩ : ∃ v, rngB (bs.map (·.l)) fn low high fuel = v := ⟨_, rfl⟩
  have e : ok_PanicValues (bs.map (·.l)) fn low high fuel = v := hv
  rw [e]
  cases v
  · rw [ans_PanicValues_no hv]; exact impl_PanicValuesN S w A c bs fn low high fuel hv
  · obtain ⟨fu, rfl⟩ : ∃ fu : Nat, fuel = fu := ⟨fuel.toNat, by have := (askB_of ((rng_ask hv).2 low (Int.le_refl _) (rng_ask hv).1.1)).2.2.2.1; omega⟩
    rw [ans_PanicValues_yes hv]; exact impl_PanicValuesV S w A c bs fn low high fu _ rfl hv
theorem spec_PanicValuesA (S : HP) (w : World) [H : SepI w S] (A : Option Addr) (c : Nat) (bs : List Bd) [r : Rd S A (cBds bs)] [B : Bodies S bs] (hnn : NoneNil bs) (fn low high fuel : Int) :
    Calls Try.prog 24 #[.agg #[.slice A bs.length c], .int .i64 fn, .int .i64 low, .int .i64 high, .int .i64 fuel] w (IntsOk S (ans_PanicValues (bs.map (·.l)) fn low high fuel) (ok_PanicValues (bs.map (·.l)) fn low high fuel) w) := by
  obtain ⟨v, hv⟩ : ∃ v, rngB (bs.map (·.l)) fn low high fuel = v := ⟨_, rfl⟩
  have e : ok_PanicValues (bs.map (·.l)) fn low high fuel = v := hv
  rw [e]
  cases v
  · rw [ans_PanicValues_no hv]; exact spec_PanicValuesN S w A c bs fn low high fuel hv
  · obtain ⟨fu, rfl⟩ : ∃ fu : Nat, fuel = fu := ⟨fuel.toNat, by have := (askB_of ((rng_ask hv).2 low (Int.le_refl _) (rng_ask hv).1.1)).2.2.2.1; omega⟩
    rw [ans_PanicValues_yes hv]; exact spec_PanicValuesV S w A c bs hnn fn low high fu _ rfl hv
theorem small_PanicValues (L : List (List St)) (fn low high fuel : Int) : (ans_PanicValues L fn low high fuel).length ≤ 1048576 := by
  obtain ⟨v, hv⟩ : ∃ v, rngB L fn low high fuel = v := ⟨_, rfl⟩
  cases v
  · rw [ans_PanicValues_no hv]; simp
  · rw [ans_PanicValues_yes hv]
    have h1 := (rng_ask hv).1
    have hn : rngN low high ≤ 101 := by unfold rngN; omega
    have h2 := Nat.le_trans (ascA_lenZ _) (pVal_len L fn fuel low (rngN low high))
    omega
end Go.Proofs.Ytobikkdnalnllaa
