/- Rethrows, by the program and by the reference. Conditions: lengths within bounds. -/
import Derived.Test.YtobikkdnalnllaaZs
import Derived.Test.YtobikkdnalnllaaZa
namespace Go.Proofs.Ytobikkdnalnllaa
open Go.RowKit SL
attribute [local go_sem] cell_blk frozen_blk lt_blk cell_at frozen_row lt_row
set_option linter.unusedVariables false
set_option linter.unusedSimpArgs false
def reth (p : Pn) : Int := if p.ag then 1 else 0
theorem reth_le (p : Pn) : 0 ≤ reth p ∧ reth p ≤ 1 := by unfold reth; split <;> omega
theorem agN_le (l : List Pn) : 0 ≤ agN l ∧ agN l ≤ l.length := by
  unfold agN
  have := List.length_filter_le (·.ag) l
  omega
theorem agN_next {l : List Pn} {i : Nat} {x : Int} (h : (l.map reth)[i]? = some x) : agN (l.take (i + 1)) = agN (l.take i) + x := by
  rw [List.getElem?_map] at h
  obtain ⟨p, hp, rfl⟩ := Option.map_eq_some_iff.1 h
  rw [take_succ_eq hp, agN_snoc]; rfl
def boolsZ (l : List Bool) : List Value := l.map Value.bool
theorem boolsZ_get {l : List Bool} {k : Nat} {x : Bool} (h : l[k]? = some x) : (boolsZ l)[k]? = some (.bool x) := by simp [boolsZ, h]
theorem boolsZ_set (l : List Bool) (k : Nat) (x : Bool) : (boolsZ l).set k (.bool x) = boolsZ (l.set k x) := by simp [boolsZ, List.map_set]
theorem info_boolZ : (Try.prog.info? 4).map (fun i => (i.zero, i.size, i.bytes)) = some (some (.bool false), 1, 1) := by kernel_rfl
theorem boolsZ_zeros (n : Nat) : (List.replicate n (Value.bool false).cells.toList).flatten = boolsZ (List.replicate n false) := by
  induction n with
  | zero => rfl
  | succ n ih => rw [List.replicate_succ, List.replicate_succ, List.flatten_cons, ih]; rfl
def savB (n : Nat) (l : List Int) : List Bool := (List.range n).map (fun k : Nat => l.contains (k : Int))
theorem savB_len (n : Nat) (l : List Int) : (savB n l).length = n := by simp [savB]
theorem savB_nil (n : Nat) : savB n [] = List.replicate n false := by
  unfold savB
  apply List.ext_getElem?
  intro i
  by_cases h : i < n
  · rw [List.getElem?_map, List.getElem?_range h, List.getElem?_replicate, if_pos h]; rfl
  · rw [List.getElem?_map, List.getElem?_eq_none (by simpa using h), List.getElem?_replicate, if_neg h]; rfl
theorem savB_get {n : Nat} {l : List Int} {j : Nat} (h : j < n) : (savB n l)[j]? = some (l.contains (j : Int)) := by
  unfold savB
  rw [List.getElem?_map, List.getElem?_range h]; rfl
theorem savB_set {n : Nat} {l : List Int} {j : Nat} (h : j < n) : (savB n l).set j true = savB n (l ++ [(j : Int)]) := by
  apply List.ext_getElem?
  intro i
  by_cases hi : i < n
  · rw [savB_get hi]
    by_cases e : j = i
    · subst e
      rw [List.getElem?_set_self (by rw [savB_len]; exact h)]; simp
    · rw [List.getElem?_set_ne e, savB_get hi]
      simp; omega
  · rw [List.getElem?_eq_none (by rw [List.length_set, savB_len]; omega), List.getElem?_eq_none (by rw [savB_len]; omega)]
theorem read5_next {t : List Ev} {o : List Int} {i : Nat} {e : Ev} {x : Int} (h : t[i]? = some e) (h2 : o[i]? = some x) : read5 (t.take (i + 1)) (o.take (i + 1)) = step5 (read5 (t.take i) (o.take i)) (e, x) := by
  have h3 := (List.getElem?_eq_some_iff.1 h).1
  have h4 := (List.getElem?_eq_some_iff.1 h2).1
  rw [take_succ_eq h, take_succ_eq h2, read5_snoc (by rw [List.length_take, List.length_take]; omega)]
theorem step5_le (x : List Int × Int) (e : Ev × Int) : x.2 ≤ (step5 x e).2 ∧ (step5 x e).2 ≤ x.2 + 1 := by
  unfold step5
  split
  · exact ⟨Int.le_refl _, by show x.2 ≤ x.2 + 1; omega⟩
  · split
    · exact ⟨by show x.2 ≤ x.2 + 1; omega, by show x.2 + 1 ≤ x.2 + 1; omega⟩
    · exact ⟨Int.le_refl _, by show x.2 ≤ x.2 + 1; omega⟩
theorem read5_le (t : List Ev) (o : List Int) (h : o.length = t.length) : ∀ i, i ≤ t.length → 0 ≤ (read5 (t.take i) (o.take i)).2 ∧ (read5 (t.take i) (o.take i)).2 ≤ (i : Int)
  | 0, _ => by rw [List.take_zero, List.take_zero]; exact ⟨Int.le_refl _, Int.le_refl _⟩
  | i + 1, hi => by
    obtain ⟨e, he⟩ := get_ex (xs := t) (k := i) (by omega)
    obtain ⟨x, hx⟩ := get_ex (xs := o) (k := i) (by omega)
    have ih := read5_le t o h i (by omega)
    have hs := step5_le (read5 (t.take i) (o.take i)) (e, x)
    rw [read5_next he hx]
    omega
theorem step5_6 {x : List Int × Int} {f v o : Int} : step5 x (⟨6, f, v⟩, o) = (x.1 ++ [o], x.2) := by unfold step5; rw [if_pos rfl]
theorem step5_5y {x : List Int × Int} {f v o : Int} (h : x.1.contains o = true) : step5 x (⟨5, f, v⟩, o) = (x.1, x.2 + 1) := by unfold step5; rw [if_neg (by show ¬ (5 : Int) = 6; omega), if_pos ⟨rfl, h⟩]
theorem step5_5n {x : List Int × Int} {f v o : Int} (h : x.1.contains o = false) : step5 x (⟨5, f, v⟩, o) = x := by unfold step5; rw [if_neg (by show ¬ (5 : Int) = 6; omega), if_neg (fun q => by rw [h] at q; cases q.2)]
set_option maxRecDepth 100000 in
set_option maxHeartbeats 8000000 in
theorem impl_RethrowsN (S : HP) (w : World) [H : SepI w S] (A : Option Addr) (c : Nat) (bs : List Bd) [r : Rd S A (cBds bs)] [B : Bodies S bs] (fn arg fuel : Int) (hv : askB (bs.map (·.l)) fn arg fuel = false) :
    Calls Try.prog 27 #[.agg #[.slice A bs.length c], .int .i64 fn, .int .i64 arg, .int .i64 fuel] w (IntA S (0, false) w) := by
  have HV := Hd.mk hv
  clear hv
  obtain ⟨ps, hps⟩ : ∃ ps : List Pn, ps = [] := ⟨_, rfl⟩
  have hpl : ps.length ≤ 1000 := by rw [hps]; exact Nat.zero_le _
  obtain ⟨ans, hans⟩ : ∃ ans : List Int, ans = ps.map reth := ⟨_, rfl⟩
  have HANS : Hd (ans = []) := ⟨by rw [hans, hps]; rfl⟩
  obtain ⟨m, hm⟩ : ∃ m, m = ans.length := ⟨_, rfl⟩
  have HM := Hd.mk hm
  have HAB : Hd (∀ x ∈ ans, 0 ≤ x ∧ x ≤ 1) := ⟨fun x hx => by rw [hans] at hx; obtain ⟨p, _, rfl⟩ := List.mem_map.1 hx; exact reth_le p⟩
  obtain ⟨O, hO⟩ : ∃ O : Nat → Int, O = fun i => agN (ps.take i) := ⟨_, rfl⟩
  have HO0 : Hd (O 0 = 0) := ⟨by rw [hO]; rfl⟩
  have HOM : Hd (O m = agN ps) := ⟨by rw [hO, hm, hans, List.length_map]; simp only [List.take_length]⟩
  have HOY : Hd (∀ (i : Nat) (x : Int), ans[i]? = some x → O (i + 1) = O i + x) := ⟨fun i x h => by rw [hO]; rw [hans] at h; exact agN_next h⟩
  have hml : m ≤ 1000 := by rw [hm, hans, List.length_map]; exact hpl
  have HOL : Hd (∀ i : Nat, i ≤ m → 0 ≤ O i ∧ O i ≤ 1000) := ⟨fun i hi => by
    rw [hO]; simp only
    have h1 := agN_le (ps.take i)
    rw [List.length_take] at h1
    omega⟩
  have HOZ : Hd (O m = 0) := ⟨by rw [HOM.out, hps]; rfl⟩
  clear hO hans hps
  go_enter Try.func27, Try.ntmps27
  go_wp2_with fail
  refine (impl_ofPanicsN _ _ A c bs fn arg fuel _ _ HV.out).mono ?_
  rw [← HANS.out]
  rintro e w1 ⟨A1, c1, rfl, HP⟩
  have HS1 := HP.sep
  have HE1 := HP.ext
  clear HP
  rw [← hm] at HS1 ⊢
  clear hm
  go_wp2
  go_loopw [12, 25] (fun v12 v25 wr => ∃ (i : Nat), i ≤ m ∧ v25 = .int .i64 i ∧ v12 = .int .i64 (O i) ∧ ExtI w wr ∧ SepI wr (Row 3 1 (.slice A1 m c1) m (ints ans) * (pts w.heap.size (.cells #[.slice A bs.length c] 31 (0, 0)) * S))) (fun _ v _ => m - (intOf v).toNat)
  case atStart => exact ⟨0, Nat.zero_le _, rfl, by rw [HO0.out], inferInstance, inferInstance⟩
  case round =>
    obtain ⟨i, hi, rfl, rfl, HX, HS3⟩ := hrel
    have hoi := HOL.out i hi
    by_cases hlt : i < m
    · obtain ⟨x, hs1⟩ := get_ex (xs := ans) (k := i) (by rw [← HM.out]; exact hlt)
      have hx := HAB.out x (List.mem_of_getElem? hs1)
      obtain ⟨gr, rfl⟩ := Row.addr HS3 (by omega)
      have d1 : ∀ F : HP, CellAt (Row 3 1 (.slice (some ⟨gr, 0, none⟩) m c1) m (ints ans) * F) gr i (.int .i64 x) := fun F => Row.cellAt (ints_get hs1)
      have HN := Hd.mk (HOY.out i x hs1)
      have hw : IntKind.i64.wrap (O i + x) = O i + x := IntWalk.i64_in _ (by omega)
      clear hs1
      go_wp2
      go_roundw
      case rel => exact ⟨i + 1, by omega, by go_num, by rw [HN.out], inferInstance, inferInstance⟩
      case measure => (simp [intOf]; try omega)
    · have : i = m := by omega
      subst this
      go_wp2
      go_ret2
      rw [HOZ.out]
      exact ⟨rfl, Post.mk' (Ent.sep (S := _) inferInstance inferInstance) inferInstance⟩
set_option maxRecDepth 100000 in
set_option maxHeartbeats 8000000 in
theorem impl_RethrowsV (S : HP) (w : World) [H : SepI w S] (A : Option Addr) (c : Nat) (bs : List Bd) [r : Rd S A (cBds bs)] [B : Bodies S bs] (fn arg : Int) (fu : Nat) (L : List (List St)) (hbs : bs.map (·.l) = L) (hv : askB L fn arg fu = true) :
    Calls Try.prog 27 #[.agg #[.slice A bs.length c], .int .i64 fn, .int .i64 arg, .int .i64 fu] w (IntA S (agN (ranM L fn arg fu).m.panics, true) w) := by
  have HV := Hd.mk hv
  have HB := Hd.mk hbs
  have HF := factsB hv
  obtain ⟨ps, hps⟩ : ∃ ps : List Pn, ps = (ranM L fn arg fu).m.panics := ⟨_, rfl⟩
  have hpl : ps.length ≤ 1000 := by rw [hps]; have h1 := HF.bl.p; have h2 := HF.ts; omega
  clear hv hbs HF
  obtain ⟨ans, hans⟩ : ∃ ans : List Int, ans = ps.map reth := ⟨_, rfl⟩
  have HANS : Hd ((ranM L fn arg fu).m.panics.map reth = ans) := ⟨by rw [hans, hps]⟩
  obtain ⟨m, hm⟩ : ∃ m, m = ans.length := ⟨_, rfl⟩
  have HM := Hd.mk hm
  have HAB : Hd (∀ x ∈ ans, 0 ≤ x ∧ x ≤ 1) := ⟨fun x hx => by rw [hans] at hx; obtain ⟨p, _, rfl⟩ := List.mem_map.1 hx; exact reth_le p⟩
  obtain ⟨O, hO⟩ : ∃ O : Nat → Int, O = fun i => agN (ps.take i) := ⟨_, rfl⟩
  have HO0 : Hd (O 0 = 0) := ⟨by rw [hO]; rfl⟩
  have HOM : Hd (O m = agN ps) := ⟨by rw [hO, hm, hans, List.length_map]; simp only [List.take_length]⟩
  have HOY : Hd (∀ (i : Nat) (x : Int), ans[i]? = some x → O (i + 1) = O i + x) := ⟨fun i x h => by rw [hO]; rw [hans] at h; exact agN_next h⟩
  have hml : m ≤ 1000 := by rw [hm, hans, List.length_map]; exact hpl
  have HOL : Hd (∀ i : Nat, i ≤ m → 0 ≤ O i ∧ O i ≤ 1000) := ⟨fun i hi => by
    rw [hO]; simp only
    have h1 := agN_le (ps.take i)
    rw [List.length_take] at h1
    omega⟩
  rw [← hps, ← HOM.out]
  clear hO hans hps
  have HEN : Hd (Enters 64) := ⟨fun args w => by go_simp⟩
  have HOF : Hd (∀ (X : HP) (R : Run), OfPn X A bs.length c fu R 64 #[] reth) := ⟨fun X R S0 y W HW => (@impl_Rethrows1 S0 W HW y).mono fun e w h => h⟩
  go_enter Try.func27, Try.ntmps27
  go_wp2_with fail
  refine (impl_ofPanicsV _ _ A c bs _ _ _ HEN.out fn arg fu L HB.out HV.out (HOF.out _ _)).mono ?_
  rw [HANS.out]
  rintro e w1 ⟨A1, c1, rfl, HP⟩
  have HS1 := HP.sep
  have HE1 := HP.ext
  clear HP
  rw [← hm] at HS1 ⊢
  clear hm
  go_wp2
  go_loopw [12, 25] (fun v12 v25 wr => ∃ (i : Nat), i ≤ m ∧ v25 = .int .i64 i ∧ v12 = .int .i64 (O i) ∧ ExtI w wr ∧ SepI wr (Row 3 1 (.slice A1 m c1) m (ints ans) * (pts w.heap.size (.cells #[.slice A bs.length c] 31 (0, 0)) * S))) (fun _ v _ => m - (intOf v).toNat)
  case atStart => exact ⟨0, Nat.zero_le _, rfl, by rw [HO0.out], inferInstance, inferInstance⟩
  case round =>
    obtain ⟨i, hi, rfl, rfl, HX, HS3⟩ := hrel
    have hoi := HOL.out i hi
    by_cases hlt : i < m
    · obtain ⟨x, hs1⟩ := get_ex (xs := ans) (k := i) (by rw [← HM.out]; exact hlt)
      have hx := HAB.out x (List.mem_of_getElem? hs1)
      obtain ⟨gr, rfl⟩ := Row.addr HS3 (by omega)
      have d1 : ∀ F : HP, CellAt (Row 3 1 (.slice (some ⟨gr, 0, none⟩) m c1) m (ints ans) * F) gr i (.int .i64 x) := fun F => Row.cellAt (ints_get hs1)
      have HN := Hd.mk (HOY.out i x hs1)
      have hw : IntKind.i64.wrap (O i + x) = O i + x := IntWalk.i64_in _ (by omega)
      clear hs1
      go_wp2
      go_roundw
      case rel => exact ⟨i + 1, by omega, by go_num, by rw [HN.out], inferInstance, inferInstance⟩
      case measure => (simp [intOf]; try omega)
    · have : i = m := by omega
      subst this
      go_wp2
      go_ret2
      exact ⟨rfl, Post.mk' (Ent.sep (S := _) inferInstance inferInstance) inferInstance⟩
set_option maxRecDepth 100000 in
set_option maxHeartbeats 8000000 in
theorem spec_RethrowsN (S : HP) (w : World) [H : SepI w S] (A : Option Addr) (c : Nat) (bs : List Bd) [r : Rd S A (cBds bs)] [B : Bodies S bs] (fn arg fuel : Int) (hv : askB (bs.map (·.l)) fn arg fuel = false) :
    Calls Try.prog 26 #[.agg #[.slice A bs.length c], .int .i64 fn, .int .i64 arg, .int .i64 fuel] w (IntA S (0, false) w) := by
  have hbn := B.n
  have HV := Hd.mk hv
  clear hv
  have hnot : ∀ (x : Bool) (w : World), (Op.unary .not (.bool x)).run Try.prog w = .ok (.bool (!x)) w := fun _ _ => rfl
  go_enter Try.func26, Try.ntmps26
  go_wp2_with fail
  refine (spec_l2Ask _ _ A c bs fn arg fuel _ HV.out).mono ?_
  rintro e w1 ⟨rfl, HP⟩
  have HS1 := HP.sep
  have HE1 := HP.ext
  clear HP
  go_wp2
  go_ret2
  exact ⟨rfl, Post.mk' (Ent.sep (S := _) inferInstance inferInstance) inferInstance⟩
set_option maxRecDepth 100000 in
set_option maxHeartbeats 8000000 in
theorem spec_RethrowsV (S : HP) (w : World) [H : SepI w S] (A : Option Addr) (c : Nat) (bs : List Bd) [r : Rd S A (cBds bs)] [B : Bodies S bs] (hnn : NoneNil bs) (fn arg : Int) (fu : Nat) (L : List (List St)) (hbs : bs.map (·.l) = L) (hv : askB L fn arg fu = true) :
    Calls Try.prog 26 #[.agg #[.slice A bs.length c], .int .i64 fn, .int .i64 arg, .int .i64 fu] w (IntA S (agN (ranM L fn arg fu).m.panics, true) w) := by
  have HNN := Hd.mk hnn
  have HV2 : Hd (askB (bs.map (·.l)) fn arg fu = true) := ⟨by rw [hbs]; exact hv⟩
  clear hnn
  have hbn := B.n
  have HV := Hd.mk hv
  have HB := Hd.mk hbs
  have HF := Hd.mk (factsB hv)
  clear hv hbs
  obtain ⟨R, hR⟩ : ∃ R, ranM L fn arg fu = R := ⟨_, rfl⟩
  have HR := Hd.mk hR
  rw [hR] at HF ⊢
  clear hR
  obtain ⟨t, ht⟩ : ∃ t, t = R.m.trace := ⟨_, rfl⟩
  obtain ⟨ow, how⟩ : ∃ ow, ow = R.m.owners := ⟨_, rfl⟩
  obtain ⟨C, hC⟩ : ∃ C, R.m.calls.map c5 = C := ⟨_, rfl⟩
  obtain ⟨nc, hnc⟩ : ∃ nc, nc = C.length := ⟨_, rfl⟩
  obtain ⟨m, hm⟩ : ∃ m, m = t.length := ⟨_, rfl⟩
  have hncl : nc ≤ 1000 := by rw [hnc, ← hC, List.length_map]; have h1 := HF.out.bl.c; have h2 := HF.out.ts; omega
  have hml : m ≤ 1000 := by rw [hm, ht]; exact HF.out.ts
  have HM := Hd.mk hm
  have HT : Hd (t = R.m.trace) := ⟨ht⟩
  have HOWL : Hd (ow.length = m) := ⟨by rw [how, hm, ht]; exact HF.out.len⟩
  have HR3 : Hd (∃ now, read3 t = some ⟨C, ow, now⟩) := ⟨by rw [ht, how, ← hC]; exact HF.out.r3⟩
  have H6 : Hd (∀ (i : Nat) (e : Ev) (o : Int), t[i]? = some e → ow[i]? = some o → e.k = 6 → ∃ j : Nat, o = j ∧ j < nc) := ⟨fun i e o h1 h2 h3 => by
    rw [ht] at h1
    rw [how] at h2
    rw [hnc, ← hC, List.length_map]
    exact own6 HF.out h1 h2 h3⟩
  have H5 : Hd (∀ (i : Nat) (e : Ev) (o : Int), t[i]? = some e → ow[i]? = some o → e.k = 5 → ∃ j : Nat, o = j ∧ j < nc) := ⟨fun i e o h1 h2 h3 => by
    rw [ht] at h1
    rw [how] at h2
    rw [hnc, ← hC, List.length_map]
    exact own5 HF.out h1 h2 h3⟩
  obtain ⟨X, hX⟩ : ∃ X : Nat → List Int × Int, X = fun i => read5 (t.take i) (ow.take i) := ⟨_, rfl⟩
  have HX0 : Hd (X 0 = ([], 0)) := ⟨by rw [hX]; rfl⟩
  have HXM : Hd ((X m).2 = agN R.m.panics) := ⟨by
    rw [hX]; simp only
    rw [List.take_of_length_le (by omega), List.take_of_length_le (by rw [HOWL.out]; omega), ht, how, HF.out.r5]⟩
  have HXY : Hd (∀ (i : Nat) (e : Ev) (o : Int), t[i]? = some e → ow[i]? = some o → X (i + 1) = step5 (X i) (e, o)) := ⟨fun i e o h1 h2 => by rw [hX]; exact read5_next h1 h2⟩
  have HXL : Hd (∀ i : Nat, i ≤ m → 0 ≤ (X i).2 ∧ (X i).2 ≤ (i : Int)) := ⟨fun i hi => by rw [hX]; exact read5_le t ow (by rw [HOWL.out, hm]) i (by omega)⟩
  have HHT : Hd (t.length ≤ 1000) := ⟨by omega⟩
  have HTL : Hd (t.length = m) := ⟨hm.symm⟩
  have HNC : Hd (C.length = nc) := ⟨hnc.symm⟩
  rw [← HXM.out]
  clear hX how hC hm hnc ht
  have hnot : ∀ (x : Bool) (w : World), (Op.unary .not (.bool x)).run Try.prog w = .ok (.bool (!x)) w := fun _ _ => rfl
  go_enter Try.func26, Try.ntmps26
  go_wp2_with fail
  refine (spec_l2Ask _ _ A c bs fn arg fu _ HV2.out).mono ?_
  rintro e w1 ⟨rfl, HP⟩
  have HS1 := HP.sep
  have HE1 := HP.ext
  clear HP
  go_wp2_with fail
  refine (spec_runX _ _ A c bs HNN.out fn arg fu L HB.out HV.out).mono ?_
  rw [HR.out]
  rintro e w2 ⟨A2, c2, rfl, HP⟩
  rw [← HT.out] at HP ⊢
  have HS2 := HP.sep
  have HE2 := HP.ext
  clear HP
  try simp only []
  rename_i hK
  refine hK _ _ ?_
  clear hK
  refine ev_val rfl _ rfl ?_
  go_wp2_with fail
  obtain ⟨now, hr3⟩ := HR3.out
  have HR3' := Hd.mk hr3
  clear hr3
  refine (@spec_l3Read _ w2 HS2 A2 c2 t inferInstance HHT.out _ _ now HR3'.out).mono ?_
  rintro e w3 ⟨Ac, cc, Ao, oc, rfl, HP⟩
  rw [HTL.out, HNC.out, HOWL.out] at HP
  rw [HTL.out, HNC.out, HOWL.out]
  have HS3 := HP.sep
  have HE3 := HP.ext
  clear HP
  go_wp2_with (refine ev_make rfl 73 _ _ rfl nc rfl rfl 4 1 1 _ Try.underlying73 info_boolZ rfl (by decide) (by decide) (by omega) ?_; rw [boolsZ_zeros]; intro b w4 HS4 HE4)
  obtain ⟨S2, HS5, rT, rO, i8, hout⟩ : ∃ S2 : HP, SepI w4 (Row 4 1 (.slice (some ⟨b, 0, none⟩) nc nc) nc (boolsZ (savB nc (X 0).1)) * S2) ∧ Rd S2 A2 (cEvs t) ∧ Rd S2 Ao (ints ow) ∧ HasBlk S2 w3.heap.size (.cells #[.slice Ac nc cc, .slice Ao m oc] 71 (0, 0)) ∧ (∀ (w : World) (X : HP), SepI w (X * S2) → SepI w (X * S)) := ⟨_, by rw [HX0.out, savB_nil]; exact HS4, inferInstance, inferInstance, inferInstance, fun w X H => Ent.sep (S := _) inferInstance H⟩
  have HOUT := Hd.mk hout
  clear hout HS4
  go_wp2
  go_loopw [11, 14] (fun v11 v14 wr => ∃ i : Nat, i ≤ m ∧ v14 = .int .i64 i ∧ v11 = .int .i64 (X i).2 ∧ ExtI w wr ∧ SepI wr (Row 4 1 (.slice (some ⟨b, 0, none⟩) nc nc) nc (boolsZ (savB nc (X i).1)) * S2)) (fun _ v _ => m - (intOf v).toNat)
  case atStart => exact ⟨0, Nat.zero_le _, rfl, by rw [HX0.out], inferInstance, HS5⟩
  case round =>
    obtain ⟨i, hi, rfl, rfl, HX, HS6⟩ := hrel
    by_cases hlt : i < m
    · obtain ⟨⟨ek, ef, ev⟩, hs1⟩ := get_ex (xs := t) (k := i) (by rw [HTL.out]; exact hlt)
      obtain ⟨ow1, hs2⟩ := get_ex (xs := ow) (k := i) (by rw [HOWL.out]; exact hlt)
      obtain ⟨bT, oT, rfl⟩ := rT.addr HS5.right (j := i) (by rw [cEvs_len, HTL.out]; omega)
      obtain ⟨bO, oO, rfl⟩ := rO.addr HS5.right (j := i) (by rw [ints_len, HOWL.out]; exact hlt)
      have e1 := rT.cell (cEvs_get hs1).1
      have e2 := rO.cell (ints_get hs2)
      have hle := HXL.out i hi
      have HNX := HXY.out i _ _ hs1 hs2
      have h6 := H6.out i _ _ hs1 hs2
      have h5 := H5.out i _ _ hs1 hs2
      simp only at e1 h6 h5
      clear hs1 hs2
      obtain ⟨⟨xs, xn⟩, hxi⟩ : ∃ x, X i = x := ⟨_, rfl⟩
      rw [hxi] at HNX HS6 hle ⊢
      simp only at HS6 hle
      simp only
      clear hxi
      by_cases k6 : ek = 6
      · subst k6
        obtain ⟨j, rfl, hj⟩ := h6 rfl
        rw [step5_6] at HNX
        have HN := Hd.mk HNX
        clear HNX h5 h6
        have d1 : ∀ F : HP, CellAt (Row 4 1 (.slice (some ⟨b, 0, none⟩) nc nc) nc (boolsZ (savB nc xs)) * F) b j (.bool (xs.contains (j : Int))) := fun F => Row.cellAt (boolsZ_get (savB_get hj))
        go_wp2
        go_roundw
        case rel => exact ⟨i + 1, by omega, by go_num, by rw [HN.out], inferInstance, by rw [HN.out]; exact SepI.cast (Ent.sep (S := _) (T := Row 4 1 (.slice (some ⟨b, 0, none⟩) nc nc) nc ((boolsZ (savB nc xs)).set j (.bool true)) * S2) inferInstance inferInstance) (by rw [boolsZ_set, savB_set hj])⟩
        case measure => (simp [intOf]; try omega)
      · have k6b : (ek == 6) = false := beq_eq_false_iff_ne.2 k6
        by_cases k5 : ek = 5
        · subst k5
          obtain ⟨j, rfl, hj⟩ := h5 rfl
          obtain ⟨q, hq⟩ : ∃ q, xs.contains (j : Int) = q := ⟨_, rfl⟩
          have d1 : ∀ F : HP, CellAt (Row 4 1 (.slice (some ⟨b, 0, none⟩) nc nc) nc (boolsZ (savB nc xs)) * F) b j (.bool q) := fun F => Row.cellAt (boolsZ_get (by rw [savB_get hj, hq]))
          cases q
          · rw [step5_5n hq] at HNX
            have HN := Hd.mk HNX
            clear HNX h5 h6 hq k6 k6b
            go_wp2
            go_roundw
            case rel => exact ⟨i + 1, by omega, by go_num, by rw [HN.out], inferInstance, by rw [HN.out]; exact HS6⟩
            case measure => (simp [intOf]; try omega)
          · rw [step5_5y hq] at HNX
            have HN := Hd.mk HNX
            have hw : IntKind.i64.wrap (xn + 1) = xn + 1 := IntWalk.i64_in _ (by omega)
            clear HNX h5 h6 hq k6 k6b
            go_wp2
            go_roundw
            case rel => exact ⟨i + 1, by omega, by go_num, by rw [HN.out], inferInstance, by rw [HN.out]; exact HS6⟩
            case measure => (simp [intOf]; try omega)
        · have k5b : (ek == 5) = false := beq_eq_false_iff_ne.2 k5
          have HN : Hd (X (i + 1) = (xs, xn)) := ⟨by rw [HNX]; exact step5_plain ⟨k5, k6⟩⟩
          clear HNX h5 h6 k5 k6
          go_wp2
          go_roundw
          case rel => exact ⟨i + 1, by omega, by go_num, by rw [HN.out], inferInstance, by rw [HN.out]; exact HS6⟩
          case measure => (simp [intOf]; try omega)
    · have : i = m := by omega
      subst this
      go_wp2
      go_ret2
      exact ⟨rfl, Post.mk' (SepI.right (HOUT.out _ _ HS6)) inferInstance⟩
def val_Rethrows (L : List (List St)) (fn arg fuel : Int) : Int × Bool := if askB L fn arg fuel then (agN (ranM L fn arg fuel.toNat).m.panics, true) else (0, false)
theorem val_Rethrows_no {L : List (List St)} {fn arg fuel : Int} (h : askB L fn arg fuel = false) : val_Rethrows L fn arg fuel = (0, false) := by unfold val_Rethrows; rw [h]; rfl
theorem val_Rethrows_yes {L : List (List St)} {fn arg : Int} {fu : Nat} (h : askB L fn arg fu = true) : val_Rethrows L fn arg fu = (agN (ranM L fn arg fu).m.panics, true) := by unfold val_Rethrows; rw [if_pos h, Int.toNat_natCast]
theorem impl_RethrowsA (S : HP) (w : World) [H : SepI w S] (A : Option Addr) (c : Nat) (bs : List Bd) [r : Rd S A (cBds bs)] [B : Bodies S bs] (fn arg fuel : Int) :
    Calls Try.prog 27 #[.agg #[.slice A bs.length c], .int .i64 fn, .int .i64 arg, .int .i64 fuel] w (IntA S (val_Rethrows (bs.map (·.l)) fn arg fuel) w) := by
  obtain ⟨v, hv⟩ : ∃ v, askB (bs.map (·.l)) fn arg fuel = v := ⟨_, rfl⟩
  cases v
  · rw [val_Rethrows_no hv]; exact impl_RethrowsN S w A c bs fn arg fuel hv
  · obtain ⟨fu, rfl⟩ : ∃ fu : Nat, fuel = fu := ⟨fuel.toNat, by have := (askB_of hv).2.2.2.1; omega⟩
    rw [val_Rethrows_yes hv]; exact impl_RethrowsV S w A c bs fn arg fu _ rfl hv
theorem spec_RethrowsA (S : HP) (w : World) [H : SepI w S] (A : Option Addr) (c : Nat) (bs : List Bd) [r : Rd S A (cBds bs)] [B : Bodies S bs] (hnn : NoneNil bs) (fn arg fuel : Int) :
    Calls Try.prog 26 #[.agg #[.slice A bs.length c], .int .i64 fn, .int .i64 arg, .int .i64 fuel] w (IntA S (val_Rethrows (bs.map (·.l)) fn arg fuel) w) := by
  obtain ⟨v, hv⟩ : ∃ v, askB (bs.map (·.l)) fn arg fuel = v := ⟨_, rfl⟩
  cases v
  · rw [val_Rethrows_no hv]; exact spec_RethrowsN S w A c bs fn arg fuel hv
  · obtain ⟨fu, rfl⟩ : ∃ fu : Nat, fuel = fu := ⟨fuel.toNat, by have := (askB_of hv).2.2.2.1; omega⟩
    rw [val_Rethrows_yes hv]; exact spec_RethrowsV S w A c bs hnn fn arg fu _ rfl hv
end Go.Proofs.Ytobikkdnalnllaa
