/- CountEnds and DepthsOf by the program and by the reference. Conditions: lengths within bounds. -/
import Derived.Test.YthnaoedlnificaaYf
namespace Go.Proofs.Ythnaoedlnificaa
open Go.RowKit SL
attribute [local go_sem] cell_blk frozen_blk lt_blk cell_at frozen_row lt_row
set_option linter.unusedVariables false
set_option linter.unusedSimpArgs false

/-- How many calls end in each way. -/
def endQ (l : List Int) : R4s := ⟨endN l 1, endN l 2, endN l 3, endN l 4⟩
theorem endN_snoc (l : List Int) (x k : Int) : endN (l ++ [x]) k = endN l k + (if x = k then 1 else 0) := by
  unfold endN
  rw [List.filter_append, List.length_append]
  by_cases h : x = k
  · subst h; simp
  · rw [if_neg h]; simp [h]
theorem endN_le (l : List Int) (k : Int) : 0 ≤ endN l k ∧ endN l k ≤ l.length := by
  unfold endN
  have := List.length_filter_le (· == k) l
  omega
/-- Four numbers beside a bool. -/
def A4Ok (S : HP) (x : (Int × Int × Int × Int) × Bool) (w : World) (e : Ending) (w' : World) : Prop := e = two (.agg #[.int .i64 x.1.1, .int .i64 x.1.2.1, .int .i64 x.1.2.2.1, .int .i64 x.1.2.2.2]) (.bool x.2) ∧ Post w S w'
def endV (q : R4s) (ok : Bool) : (Int × Int × Int × Int) × Bool := ((q.a, q.b, q.c, q.d), ok)
abbrev q4 (q : R4s) : Array Value := #[.int .i64 q.a, .int .i64 q.b, .int .i64 q.c, .int .i64 q.d]
theorem q4_get {q : R4s} {k : Nat} (hk : k < 4) : (q4 q)[k]? = some (.int .i64 (regAt q.l k)) := by
  match k, hk with
  | 0, _ => rfl
  | 1, _ => rfl
  | 2, _ => rfl
  | 3, _ => rfl
theorem q4_set {q : R4s} {k : Nat} (hk : k < 4) {x : Int} : (q4 q).setIfInBounds k (.int .i64 x) = q4 (q.set k x) := by
  match k, hk with
  | 0, _ => rfl
  | 1, _ => rfl
  | 2, _ => rfl
  | 3, _ => rfl
/-- One more end. -/
theorem endQ_next (l : List Int) (x : Int) (k : Nat) (hk : k < 4) (hx : x = (k : Int) + 1) : endQ (l ++ [x]) = (endQ l).set k (regAt (endQ l).l k + 1) := by
  subst hx
  unfold endQ
  match k, hk with
  | 0, _ => simp only [endN_snoc]; simp; rfl
  | 1, _ => simp only [endN_snoc]; simp; rfl
  | 2, _ => simp only [endN_snoc]; simp; rfl
  | 3, _ => simp only [endN_snoc]; simp; rfl
theorem endQ_le (l : List Int) (k : Nat) (hk : k < 4) : 0 ≤ regAt (endQ l).l k ∧ regAt (endQ l).l k ≤ l.length := by
  match k, hk with
  | 0, _ => exact endN_le l 1
  | 1, _ => exact endN_le l 2
  | 2, _ => exact endN_le l 3
  | 3, _ => exact endN_le l 4
set_option maxRecDepth 100000 in
set_option maxHeartbeats 8000000 in
theorem impl_CountEndsN (S : HP) (w : World) [H : SepI w S] (A : Option Addr) (c : Nat) (bs : List Bd) [r : Rd S A (cBds bs)] [B : Bodies S bs] (fn arg fuel : Int) (hv : askB (bs.map (·.l)) fn arg fuel = false) :
    Calls Try.prog 29 #[.agg #[.slice A bs.length c], .int .i64 fn, .int .i64 arg, .int .i64 fuel] w (A4Ok S ((0, 0, 0, 0), false) w) := by
  have hbn := B.n
  have HV := Hd.mk hv
  clear hv
  have hnot : ∀ (x : Bool) (w : World), (Op.unary .not (.bool x)).run Try.prog w = .ok (.bool (!x)) w := fun _ _ => rfl
  go_enter Try.func29, Try.ntmps29
  go_wp2_with fail
  refine (impl_ranN _ _ A c bs fn arg fuel HV.out).mono ?_
  rintro e w1 ⟨rfl, HP⟩
  have HS1 := HP.sep
  have HE1 := HP.ext
  clear HP
  go_wp2
  refine bodyPost_ret (v := .tuple #[.agg #[.int .i64 0, .int .i64 0, .int .i64 0, .int .i64 0], .bool false]) (by simp [results, Try.results29, go_sem]) rfl ?_
  exact ⟨rfl, Post.mk' (Ent.sep (S := _) inferInstance inferInstance) inferInstance⟩
set_option maxRecDepth 100000 in
set_option maxHeartbeats 8000000 in
theorem impl_CountEndsV (S : HP) (w : World) [H : SepI w S] (A : Option Addr) (c : Nat) (bs : List Bd) [r : Rd S A (cBds bs)] [B : Bodies S bs] (fn arg : Int) (fu : Nat) (L : List (List St)) (hbs : bs.map (·.l) = L) (hv : askB L fn arg fu = true) :
    Calls Try.prog 29 #[.agg #[.slice A bs.length c], .int .i64 fn, .int .i64 arg, .int .i64 fu] w (A4Ok S (endV (endQ ((ranM L fn arg fu).m.calls.map (·.en))) true) w) := by
  have hbn := B.n
  have HV := Hd.mk hv
  have HB := Hd.mk hbs
  have HF := Hd.mk (factsB hv)
  clear hv hbs
  obtain ⟨R, hR⟩ : ∃ R, ranM L fn arg fu = R := ⟨_, rfl⟩
  have HR := Hd.mk hR
  rw [hR] at HF ⊢
  clear hR
  obtain ⟨m, hm⟩ : ∃ m, m = R.m.calls.length := ⟨_, rfl⟩
  have HM := Hd.mk hm
  have hml : m ≤ 1000 := by have h1 := HF.out.bl.c; have h2 := HF.out.ts; omega
  obtain ⟨O, hO⟩ : ∃ O : Nat → List Int, O = fun i => (R.m.calls.take i).map (·.en) := ⟨_, rfl⟩
  have HO0 : Hd (O 0 = []) := ⟨by rw [hO]; rfl⟩
  have HOM : Hd (O m = R.m.calls.map (·.en)) := ⟨by rw [hO, hm]; simp only [List.take_length]⟩
  have HOY : Hd (∀ (i : Nat) (x : Ci), R.m.calls[i]? = some x → O (i + 1) = O i ++ [x.en]) := ⟨fun i x h => by rw [hO]; simp only; rw [take_succ_eq h, List.map_append]; rfl⟩
  have HOL : Hd (∀ i, (O i).length ≤ i) := ⟨fun i => by rw [hO]; simp only [List.length_map, List.length_take]; omega⟩
  rw [← HOM.out]
  clear hO
  obtain ⟨bq, hbq⟩ : ∃ bq, bq = w.heap.size + 2 := ⟨_, rfl⟩
  have HBQ := Hd.mk hbq
  have HEN : Hd (∀ c ∈ R.m.calls, 1 ≤ c.en ∧ c.en ≤ 4) := ⟨HF.out.cs.en⟩
  have hnot : ∀ (x : Bool) (w : World), (Op.unary .not (.bool x)).run Try.prog w = .ok (.bool (!x)) w := fun _ _ => rfl
  go_enter Try.func29, Try.ntmps29
  go_wp2_with fail
  refine (@impl_ranA (pts (w.heap.size + 1 + 1) (.cells #[.int .i64 0, .int .i64 0, .int .i64 0, .int .i64 0] 44 (0, 0)) * (pts (w.heap.size + 1) (.cells #[.int .i64 0, .int .i64 0, .int .i64 0, .int .i64 0] 44 (0, 0)) * (pts w.heap.size (.cells #[.slice A bs.length c] 33 (0, 0)) * S))) _ (Ent.sep (S := _) inferInstance inferInstance) A c bs inferInstance inferInstance fn arg fu L HB.out HV.out).mono ?_
  rw [HR.out]
  rintro e w1 ⟨gm, x, rfl, hps, HP⟩
  clear hps
  have HS1 := HP.sep
  have HE1 := HP.ext
  clear HP
  rw [MachRC.move] at HS1
  have M := MachRC.rd gm A bs.length c fu R x (pts (w.heap.size + 1) (.cells #[.int .i64 0, .int .i64 0, .int .i64 0, .int .i64 0] 44 (0, 0)) * (pts w.heap.size (.cells #[.slice A bs.length c] 33 (0, 0)) * S))
  generalize MachRC gm A bs.length c fu R.m R.kind R.val x (pts (w.heap.size + 1) (.cells #[.int .i64 0, .int .i64 0, .int .i64 0, .int .i64 0] 44 (0, 0)) * (pts w.heap.size (.cells #[.slice A bs.length c] 33 (0, 0)) * S)) = S0 at HS1 M
  have i1 := M.blk
  have rC := M.ca
  have HM1 := Hd.mk M
  obtain ⟨A1, c1, A2, c2, A3, c3, A4, c4, A5, c5, bm, ps⟩ := x
  dsimp only at i1 rC
  rw [← hm] at i1
  clear hm M
  have HS2 : SepI w1 (pts (w.heap.size + 1 + 1) (.cells (q4 (endQ (O 0))) 44 (0, 0)) * S0) := by rw [HO0.out]; exact HS1
  clear HS1
  go_wp2
  go_loopw [30] (fun v30 wr => ∃ i : Nat, i ≤ m ∧ v30 = .int .i64 i ∧ ExtI w wr ∧ SepI wr (pts (w.heap.size + 1 + 1) (.cells (q4 (endQ (O i))) 44 (0, 0)) * S0)) (fun v _ => m - (intOf v).toNat)
  case atStart => exact ⟨0, Nat.zero_le _, rfl, inferInstance, HS2⟩
  case round =>
    obtain ⟨i, hi, rfl, HX, HS3⟩ := hrel
    by_cases hlt : i < m
    · obtain ⟨x, hs1⟩ := get_ex (xs := R.m.calls) (k := i) (by rw [← HM.out]; exact hlt)
      obtain ⟨bp, op, rfl⟩ := rC.addr HS2.right (j := i) (by rw [cCis_len, ← HM.out]; omega)
      have e1 := rC.cell (cCis_at hs1).1
      have e2 := rC.cell (cCis_at hs1).2.1
      have e3 := rC.cell (cCis_at hs1).2.2.1
      have e4 := rC.cell (cCis_at hs1).2.2.2.1
      have e5 := rC.cell (cCis_at hs1).2.2.2.2.1
      have e6 := rC.cell (cCis_at hs1).2.2.2.2.2
      have hen := HEN.out x (List.mem_of_getElem? hs1)
      have HNX := HOY.out i x hs1
      obtain ⟨fn', up, df, en, va, ar⟩ := x
      simp only at e1 e2 e3 e4 e5 e6 hen HNX
      have hle := fun k hk => endQ_le (O i) k hk
      have hol := HOL.out i
      obtain ⟨Q, hQ⟩ : ∃ Q, endQ (O i) = Q := ⟨_, rfl⟩
      rw [hQ] at HS3 hle
      have la : 0 ≤ Q.a ∧ Q.a ≤ 1000 := by have : 0 ≤ Q.a ∧ Q.a ≤ _ := hle 0 (by omega); omega
      have lb : 0 ≤ Q.b ∧ Q.b ≤ 1000 := by have : 0 ≤ Q.b ∧ Q.b ≤ _ := hle 1 (by omega); omega
      have lc : 0 ≤ Q.c ∧ Q.c ≤ 1000 := by have : 0 ≤ Q.c ∧ Q.c ≤ _ := hle 2 (by omega); omega
      have ld : 0 ≤ Q.d ∧ Q.d ≤ 1000 := by have : 0 ≤ Q.d ∧ Q.d ≤ _ := hle 3 (by omega); omega
      have hcase : en = 1 ∨ en = 2 ∨ en = 3 ∨ en = 4 := by omega
      clear hs1 hle hen
      rcases hcase with rfl | rfl | rfl | rfl
      · have HQ2 : Hd (endQ (O (i + 1)) = Q.set 0 (Q.a + 1)) := ⟨by rw [HNX, endQ_next (O i) 1 0 (by omega) (by rfl), hQ]; rfl⟩
        have hw : IntKind.i64.wrap (Q.a + 1) = Q.a + 1 := IntWalk.i64_in _ (by omega)
        clear HNX hQ
        go_wp2
        go_roundw
        case rel => exact ⟨i + 1, by omega, by go_num, inferInstance, SepI.cast (Ent.sep (S := _) (T := pts (w.heap.size + 1 + 1) (.cells ((q4 Q).setIfInBounds 0 (.int .i64 (Q.a + 1))) 44 (0, 0)) * S0) inferInstance inferInstance) (by rw [HQ2.out]; rfl)⟩
        case measure => (simp [intOf]; try omega)
      · have HQ2 : Hd (endQ (O (i + 1)) = Q.set 1 (Q.b + 1)) := ⟨by rw [HNX, endQ_next (O i) 2 1 (by omega) (by rfl), hQ]; rfl⟩
        have hw : IntKind.i64.wrap (Q.b + 1) = Q.b + 1 := IntWalk.i64_in _ (by omega)
        clear HNX hQ
        go_wp2
        go_roundw
        case rel => exact ⟨i + 1, by omega, by go_num, inferInstance, SepI.cast (Ent.sep (S := _) (T := pts (w.heap.size + 1 + 1) (.cells ((q4 Q).setIfInBounds 1 (.int .i64 (Q.b + 1))) 44 (0, 0)) * S0) inferInstance inferInstance) (by rw [HQ2.out]; rfl)⟩
        case measure => (simp [intOf]; try omega)
      · have HQ2 : Hd (endQ (O (i + 1)) = Q.set 2 (Q.c + 1)) := ⟨by rw [HNX, endQ_next (O i) 3 2 (by omega) (by rfl), hQ]; rfl⟩
        have hw : IntKind.i64.wrap (Q.c + 1) = Q.c + 1 := IntWalk.i64_in _ (by omega)
        clear HNX hQ
        go_wp2
        go_roundw
        case rel => exact ⟨i + 1, by omega, by go_num, inferInstance, SepI.cast (Ent.sep (S := _) (T := pts (w.heap.size + 1 + 1) (.cells ((q4 Q).setIfInBounds 2 (.int .i64 (Q.c + 1))) 44 (0, 0)) * S0) inferInstance inferInstance) (by rw [HQ2.out]; rfl)⟩
        case measure => (simp [intOf]; try omega)
      · have HQ2 : Hd (endQ (O (i + 1)) = Q.set 3 (Q.d + 1)) := ⟨by rw [HNX, endQ_next (O i) 4 3 (by omega) (by rfl), hQ]; rfl⟩
        have hw : IntKind.i64.wrap (Q.d + 1) = Q.d + 1 := IntWalk.i64_in _ (by omega)
        clear HNX hQ
        go_wp2
        go_roundw
        case rel => exact ⟨i + 1, by omega, by go_num, inferInstance, SepI.cast (Ent.sep (S := _) (T := pts (w.heap.size + 1 + 1) (.cells ((q4 Q).setIfInBounds 3 (.int .i64 (Q.d + 1))) 44 (0, 0)) * S0) inferInstance inferInstance) (by rw [HQ2.out]; rfl)⟩
        case measure => (simp [intOf]; try omega)
    · have : i = m := by omega
      subst this
      obtain ⟨Q, hQ⟩ : ∃ Q, endQ (O i) = Q := ⟨_, rfl⟩
      rw [hQ] at HS3
      have HQ := Hd.mk hQ
      clear hQ
      have HS4 := HM1.out.out HS3
      go_wp2
      refine bodyPost_ret (v := .tuple #[.agg #[.int .i64 Q.a, .int .i64 Q.b, .int .i64 Q.c, .int .i64 Q.d], .bool true]) (by simp [results, Try.results29, go_sem]) rfl ?_
      exact ⟨by rw [HQ.out]; rfl, Post.mk' (Ent.sep (S := _) (T := S) inferInstance inferInstance) inferInstance⟩
def val_CountEnds (L : List (List St)) (fn arg fuel : Int) : (Int × Int × Int × Int) × Bool := endV (endQ ((ans_CallTree L fn arg fuel).map (·.en))) (ok_CallTree L fn arg fuel)
theorem impl_CountEndsA (S : HP) (w : World) [H : SepI w S] (A : Option Addr) (c : Nat) (bs : List Bd) [r : Rd S A (cBds bs)] [B : Bodies S bs] (fn arg fuel : Int) :
    Calls Try.prog 29 #[.agg #[.slice A bs.length c], .int .i64 fn, .int .i64 arg, .int .i64 fuel] w (A4Ok S (val_CountEnds (bs.map (·.l)) fn arg fuel) w) := by
  obtain ⟨v, hv⟩ : ∃ v, askB (bs.map (·.l)) fn arg fuel = v := ⟨_, rfl⟩
  unfold val_CountEnds ok_CallTree
  rw [hv]
  cases v
  · rw [ans_CallTree_no hv]; exact impl_CountEndsN S w A c bs fn arg fuel hv
  · obtain ⟨fu, rfl⟩ : ∃ fu : Nat, fuel = fu := ⟨fuel.toNat, by have := (askB_of hv).2.2.2.1; omega⟩
    rw [ans_CallTree_yes hv, List.map_map]; exact impl_CountEndsV S w A c bs fn arg fu _ rfl hv
/-- What is known of the calls of a run. -/
theorem calls_ok (L : List (List St)) (fn arg fuel : Int) : (ans_CallTree L fn arg fuel).length ≤ 1000 ∧ (∀ c ∈ ans_CallTree L fn arg fuel, 1 ≤ c.en ∧ c.en ≤ 4) ∧ ∀ (k : Nat) c, (ans_CallTree L fn arg fuel)[k]? = some c → -1 ≤ c.up ∧ c.up < (k : Int) := by
  obtain ⟨v, hv⟩ : ∃ v, askB L fn arg fuel = v := ⟨_, rfl⟩
  cases v
  · rw [ans_CallTree_no hv]; exact ⟨by simp, fun c h => by (cases h), fun k c h => by simp at h⟩
  · obtain ⟨fu, rfl⟩ : ∃ fu : Nat, fuel = fu := ⟨fuel.toNat, by have := (askB_of hv).2.2.2.1; omega⟩
    rw [ans_CallTree_yes hv]
    have FF := factsB hv
    have h1 := FF.bl.c
    have h2 := FF.ts
    refine ⟨by rw [List.length_map]; omega, fun c hc => ?_, fun k c hk => ?_⟩
    · obtain ⟨x, hx, rfl⟩ := List.mem_map.1 hc
      exact FF.cs.en x hx
    · rw [List.getElem?_map] at hk
      obtain ⟨x, hx, rfl⟩ := Option.map_eq_some_iff.1 hk
      exact FF.cs.up k x hx
set_option maxRecDepth 100000 in
set_option maxHeartbeats 8000000 in
theorem spec_CountEndsA (S : HP) (w : World) [H : SepI w S] (A : Option Addr) (c : Nat) (bs : List Bd) [r : Rd S A (cBds bs)] [B : Bodies S bs] (hnn : NoneNil bs) (fn arg fuel : Int) :
    Calls Try.prog 28 #[.agg #[.slice A bs.length c], .int .i64 fn, .int .i64 arg, .int .i64 fuel] w (A4Ok S (val_CountEnds (bs.map (·.l)) fn arg fuel) w) := by
  have hbn := B.n
  unfold val_CountEnds
  obtain ⟨hl1, hl2, hl3⟩ := calls_ok (bs.map (·.l)) fn arg fuel
  obtain ⟨l, hl⟩ : ∃ l, ans_CallTree (bs.map (·.l)) fn arg fuel = l := ⟨_, rfl⟩
  obtain ⟨ok, hok⟩ : ∃ ok, ok_CallTree (bs.map (·.l)) fn arg fuel = ok := ⟨_, rfl⟩
  rw [hl] at hl1 hl2 hl3 ⊢
  rw [hok]
  have HL := Hd.mk hl
  have HOK := Hd.mk hok
  have HL2 := Hd.mk hl2
  have HL3 := Hd.mk hl3
  have HNN := Hd.mk hnn
  clear hl hok hl2 hl3 hnn
  obtain ⟨m, hm⟩ : ∃ m, m = l.length := ⟨_, rfl⟩
  have HM := Hd.mk hm
  have hml : m ≤ 1000 := by omega
  obtain ⟨O, hO⟩ : ∃ O : Nat → List Int, O = fun i => (l.take i).map (·.en) := ⟨_, rfl⟩
  have HO0 : Hd (O 0 = []) := ⟨by rw [hO]; rfl⟩
  have HOM : Hd (O m = l.map (·.en)) := ⟨by rw [hO, hm]; simp only [List.take_length]⟩
  have HOY : Hd (∀ (i : Nat) (x : C5), l[i]? = some x → O (i + 1) = O i ++ [x.en]) := ⟨fun i x h => by rw [hO]; simp only; rw [take_succ_eq h, List.map_append]; rfl⟩
  have HOL : Hd (∀ i, (O i).length ≤ i) := ⟨fun i => by rw [hO]; simp only [List.length_map, List.length_take]; omega⟩
  rw [← HOM.out]
  clear hO
  have hnot : ∀ (x : Bool) (w : World), (Op.unary .not (.bool x)).run Try.prog w = .ok (.bool (!x)) w := fun _ _ => rfl
  go_enter Try.func28, Try.ntmps28
  go_wp2_with fail
  refine (@spec_CallTreeA (pts (w.heap.size + 1 + 1) (.cells #[.int .i64 0, .int .i64 0, .int .i64 0, .int .i64 0] 44 (0, 0)) * (pts (w.heap.size + 1) (.cells #[.int .i64 0, .int .i64 0, .int .i64 0, .int .i64 0] 44 (0, 0)) * (pts w.heap.size (.cells #[.slice A bs.length c] 33 (0, 0)) * S))) _ (Ent.sep (S := _) inferInstance inferInstance) A c bs inferInstance inferInstance HNN.out fn arg fuel).mono ?_
  rw [HL.out, HOK.out]
  rintro e w1 ⟨Ac, cc, rfl, HP⟩
  have HS1 := HP.sep
  have HE1 := HP.ext
  clear HP
  have HS2 : SepI w1 (pts (w.heap.size + 1 + 1) (.cells (q4 (endQ (O 0))) 44 (0, 0)) * (Row 89 5 (.slice Ac l.length cc) l.length (cC5s l) * (pts (w.heap.size + 1) (.cells #[.int .i64 0, .int .i64 0, .int .i64 0, .int .i64 0] 44 (0, 0)) * (pts w.heap.size (.cells #[.slice A bs.length c] 33 (0, 0)) * S)))) := by rw [HO0.out]; exact SepI.cast HS1 (star_left _ _ _)
  clear HS1
  rw [← hm] at HS2 ⊢
  clear hm
  go_wp2
  go_loopw [13] (fun v13 wr => ∃ i : Nat, i ≤ m ∧ v13 = .int .i64 i ∧ ExtI w wr ∧ SepI wr (pts (w.heap.size + 1 + 1) (.cells (q4 (endQ (O i))) 44 (0, 0)) * (Row 89 5 (.slice Ac m cc) m (cC5s l) * (pts (w.heap.size + 1) (.cells #[.int .i64 0, .int .i64 0, .int .i64 0, .int .i64 0] 44 (0, 0)) * (pts w.heap.size (.cells #[.slice A bs.length c] 33 (0, 0)) * S))))) (fun v _ => m - (intOf v).toNat)
  case atStart => exact ⟨0, Nat.zero_le _, rfl, inferInstance, HS2⟩
  case round =>
    obtain ⟨i, hi, rfl, HX, HS3⟩ := hrel
    by_cases hlt : i < m
    · obtain ⟨x, hs1⟩ := get_ex (xs := l) (k := i) (by rw [← HM.out]; exact hlt)
      obtain ⟨gc, rfl⟩ := Row.addr HS2.right (by omega)
      have e4 : ∀ F, CellAt (Row 89 5 (.slice (some ⟨gc, 0, none⟩) m cc) m (cC5s l) * F) gc (i * 5 + 3) (.int .i64 x.en) := fun F => Row.cellAt (cC5s_get hs1).2.2.2.1
      have hen := HL2.out x (List.mem_of_getElem? hs1)
      have HNX := HOY.out i x hs1
      obtain ⟨fn', up, df, en, va⟩ := x
      simp only at e4 hen HNX
      have hle := fun k hk => endQ_le (O i) k hk
      have hol := HOL.out i
      obtain ⟨Q, hQ⟩ : ∃ Q, endQ (O i) = Q := ⟨_, rfl⟩
      rw [hQ] at HS3 hle
      have la : 0 ≤ Q.a ∧ Q.a ≤ 1000 := by have : 0 ≤ Q.a ∧ Q.a ≤ _ := hle 0 (by omega); omega
      have lb : 0 ≤ Q.b ∧ Q.b ≤ 1000 := by have : 0 ≤ Q.b ∧ Q.b ≤ _ := hle 1 (by omega); omega
      have lc : 0 ≤ Q.c ∧ Q.c ≤ 1000 := by have : 0 ≤ Q.c ∧ Q.c ≤ _ := hle 2 (by omega); omega
      have ld : 0 ≤ Q.d ∧ Q.d ≤ 1000 := by have : 0 ≤ Q.d ∧ Q.d ≤ _ := hle 3 (by omega); omega
      have hcase : en = 1 ∨ en = 2 ∨ en = 3 ∨ en = 4 := by omega
      clear hs1 hle hen
      rcases hcase with rfl | rfl | rfl | rfl
      · have HQ2 : Hd (endQ (O (i + 1)) = Q.set 0 (Q.a + 1)) := ⟨by rw [HNX, endQ_next (O i) 1 0 (by omega) (by rfl), hQ]; rfl⟩
        have hw : IntKind.i64.wrap (Q.a + 1) = Q.a + 1 := IntWalk.i64_in _ (by omega)
        clear HNX hQ
        go_wp2
        go_roundw
        case rel => exact ⟨i + 1, by omega, by go_num, inferInstance, SepI.cast (Ent.sep (S := _) (T := pts (w.heap.size + 1 + 1) (.cells ((q4 Q).setIfInBounds 0 (.int .i64 (Q.a + 1))) 44 (0, 0)) * (Row 89 5 (.slice (some ⟨gc, 0, none⟩) m cc) m (cC5s l) * (pts (w.heap.size + 1) (.cells #[.int .i64 0, .int .i64 0, .int .i64 0, .int .i64 0] 44 (0, 0)) * (pts w.heap.size (.cells #[.slice A bs.length c] 33 (0, 0)) * S)))) inferInstance inferInstance) (by rw [HQ2.out]; rfl)⟩
        case measure => (simp [intOf]; try omega)
      · have HQ2 : Hd (endQ (O (i + 1)) = Q.set 1 (Q.b + 1)) := ⟨by rw [HNX, endQ_next (O i) 2 1 (by omega) (by rfl), hQ]; rfl⟩
        have hw : IntKind.i64.wrap (Q.b + 1) = Q.b + 1 := IntWalk.i64_in _ (by omega)
        clear HNX hQ
        go_wp2
        go_roundw
        case rel => exact ⟨i + 1, by omega, by go_num, inferInstance, SepI.cast (Ent.sep (S := _) (T := pts (w.heap.size + 1 + 1) (.cells ((q4 Q).setIfInBounds 1 (.int .i64 (Q.b + 1))) 44 (0, 0)) * (Row 89 5 (.slice (some ⟨gc, 0, none⟩) m cc) m (cC5s l) * (pts (w.heap.size + 1) (.cells #[.int .i64 0, .int .i64 0, .int .i64 0, .int .i64 0] 44 (0, 0)) * (pts w.heap.size (.cells #[.slice A bs.length c] 33 (0, 0)) * S)))) inferInstance inferInstance) (by rw [HQ2.out]; rfl)⟩
        case measure => (simp [intOf]; try omega)
      · have HQ2 : Hd (endQ (O (i + 1)) = Q.set 2 (Q.c + 1)) := ⟨by rw [HNX, endQ_next (O i) 3 2 (by omega) (by rfl), hQ]; rfl⟩
        have hw : IntKind.i64.wrap (Q.c + 1) = Q.c + 1 := IntWalk.i64_in _ (by omega)
        clear HNX hQ
        go_wp2
        go_roundw
        case rel => exact ⟨i + 1, by omega, by go_num, inferInstance, SepI.cast (Ent.sep (S := _) (T := pts (w.heap.size + 1 + 1) (.cells ((q4 Q).setIfInBounds 2 (.int .i64 (Q.c + 1))) 44 (0, 0)) * (Row 89 5 (.slice (some ⟨gc, 0, none⟩) m cc) m (cC5s l) * (pts (w.heap.size + 1) (.cells #[.int .i64 0, .int .i64 0, .int .i64 0, .int .i64 0] 44 (0, 0)) * (pts w.heap.size (.cells #[.slice A bs.length c] 33 (0, 0)) * S)))) inferInstance inferInstance) (by rw [HQ2.out]; rfl)⟩
        case measure => (simp [intOf]; try omega)
      · have HQ2 : Hd (endQ (O (i + 1)) = Q.set 3 (Q.d + 1)) := ⟨by rw [HNX, endQ_next (O i) 4 3 (by omega) (by rfl), hQ]; rfl⟩
        have hw : IntKind.i64.wrap (Q.d + 1) = Q.d + 1 := IntWalk.i64_in _ (by omega)
        clear HNX hQ
        go_wp2
        go_roundw
        case rel => exact ⟨i + 1, by omega, by go_num, inferInstance, SepI.cast (Ent.sep (S := _) (T := pts (w.heap.size + 1 + 1) (.cells ((q4 Q).setIfInBounds 3 (.int .i64 (Q.d + 1))) 44 (0, 0)) * (Row 89 5 (.slice (some ⟨gc, 0, none⟩) m cc) m (cC5s l) * (pts (w.heap.size + 1) (.cells #[.int .i64 0, .int .i64 0, .int .i64 0, .int .i64 0] 44 (0, 0)) * (pts w.heap.size (.cells #[.slice A bs.length c] 33 (0, 0)) * S)))) inferInstance inferInstance) (by rw [HQ2.out]; rfl)⟩
        case measure => (simp [intOf]; try omega)
    · have : i = m := by omega
      subst this
      obtain ⟨Q, hQ⟩ : ∃ Q, endQ (O i) = Q := ⟨_, rfl⟩
      rw [hQ] at HS3
      have HQ := Hd.mk hQ
      clear hQ
      go_wp2
      refine bodyPost_ret (v := .tuple #[.agg #[.int .i64 Q.a, .int .i64 Q.b, .int .i64 Q.c, .int .i64 Q.d], .bool ok]) (by simp [results, Try.results28, go_sem]) rfl ?_
      exact ⟨by rw [HQ.out]; rfl, Post.mk' (Ent.sep (S := _) (T := S) inferInstance inferInstance) inferInstance⟩
end Go.Proofs.Ythnaoedlnificaa
