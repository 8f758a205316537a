/- Rows as results; SaidNumbers by the program and by the reference. Conditions: lengths within bounds. -/
import Derived.Test.YthnaoedlnificaaYb
namespace Go.Proofs.Ythnaoedlnificaa
open Go.RowKit SL
attribute [local go_sem] cell_blk frozen_blk lt_blk cell_at frozen_row lt_row
set_option linter.unusedVariables false
set_option linter.unusedSimpArgs false

/-- A row of ints is handed back. -/
def IntsPost (S : HP) (l : List Int) (w : World) (e : Ending) (w' : World) : Prop := ∃ A c, e = .returned (.slice A l.length c) ∧ Post w (Row 3 1 (.slice A l.length c) l.length (ints l) * S) w'
/-- The same beside a bool. -/
def IntsOk (S : HP) (l : List Int) (ok : Bool) (w : World) (e : Ending) (w' : World) : Prop := ∃ A c, e = two (.slice A l.length c) (.bool ok) ∧ Post w (Row 3 1 (.slice A l.length c) l.length (ints l) * S) w'
theorem IntsPost.of {S : HP} {l : List Int} {w w' : World} {v : Value} (h : Post w (Row 3 1 v l.length (ints l) * S) w') : IntsPost S l w (.returned v) w' := by
  obtain ⟨A, c, rfl, _⟩ := Row.form h.sep
  exact ⟨A, c, rfl, h⟩
theorem IntsOk.of {S : HP} {l : List Int} {ok : Bool} {w w' : World} {v : Value} (h : Post w (Row 3 1 v l.length (ints l) * S) w') : IntsOk S l ok w (two v (.bool ok)) w' := by
  obtain ⟨A, c, rfl, _⟩ := Row.form h.sep
  exact ⟨A, c, rfl, h⟩
theorem IntsOk.nil {S : HP} {ok : Bool} {w w' : World} {v : Value} (h : Post w (Row 3 1 v 0 [] * S) w') : IntsOk S [] ok w (two v (.bool ok)) w' := IntsOk.of (l := []) h
theorem MRd.post {S0 S : HP} {gm : Nat} {A : Option Addr} {n c : Nat} {fuel : Int} {R : Run} {x : MVs} (M : MRd S0 S gm A n c fuel R x) {X : HP} {w w' : World} (h : Post w (X * S0) w') : Post w (X * S) w' := ⟨M.out h.sep, h.ext⟩
set_option maxRecDepth 100000 in
set_option maxHeartbeats 8000000 in
theorem spec_l2Says (S : HP) (w : World) [H : SepI w S] (A : Option Addr) (c : Nat) (t : List Ev) [r : Rd S A (cEvs t)] (ht : t.length ≤ 1000) (ki va mk : Int) :
    Calls Try.prog 67 #[outI ki va (.slice A t.length c) mk] w (IntsPost S (saidA t) w) := by
  obtain ⟨m, hm⟩ : ∃ m, m = t.length := ⟨_, rfl⟩
  have HM := Hd.mk hm
  obtain ⟨O, hO⟩ : ∃ O : Nat → List Int, O = fun i => saidA (t.take i) := ⟨_, rfl⟩
  have HO0 : Hd (O 0 = []) := ⟨by rw [hO]; rfl⟩
  have HOM : Hd (O m = saidA t) := ⟨by rw [hO, hm]; simp only [List.take_length]⟩
  have HOY : Hd (∀ (i : Nat) (e : Ev), t[i]? = some e → (e.k == 4) = true → O (i + 1) = O i ++ [e.v]) := ⟨fun i e h hk => by rw [hO]; exact fm_yes h (by unfold saidF; rw [if_pos (by simpa using hk)])⟩
  have HON : Hd (∀ (i : Nat) (e : Ev), t[i]? = some e → (e.k == 4) = false → O (i + 1) = O i) := ⟨fun i e h hk => by rw [hO]; exact fm_no h (by unfold saidF; rw [if_neg (by simpa using hk)])⟩
  have HOL : Hd (∀ i, (O i).length ≤ 1000) := ⟨fun i => by rw [hO]; exact Nat.le_trans (fm_len _ t i) ht⟩
  rw [← HOM.out, ← hm]
  rw [← hm] at ht
  clear hm hO
  obtain ⟨be, hbe⟩ : ∃ be, be = w.heap.size := ⟨_, rfl⟩
  have hlit : SepI (w.alloc (.cells #[Value.int .i64 ki, .int .i64 va, .slice A m c, .int .i64 mk] 28 (0, 0)) |>.alloc (.cells #[] 3 (0, 0))) (Row 3 1 (.slice (some ⟨w.heap.size + 1, 0, none⟩) 0 0) 0 [] * (pts w.heap.size (.cells #[Value.int .i64 ki, .int .i64 va, .slice A m c, .int .i64 mk] 28 (0, 0)) * S)) :=
    Row.lit0 (SepI.i_alloc _ (.cells #[] 3 (0, 0)) _ _)
  have HBE := Hd.mk hbe
  clear hbe
  go_enter Try.func67, Try.ntmps67
  go_wp2
  rw [← HBE.out] at hlit ⊢
  go_loopw [3, 4] (fun v3 v4 wr => ∃ (i : Nat) (vv : Value), i ≤ m ∧ v4 = .int .i64 i ∧ v3 = vv ∧ ExtI w wr ∧ SepI wr (Row 3 1 vv (O i).length (ints (O i)) * (pts be (.cells #[Value.int .i64 ki, .int .i64 va, .slice A m c, .int .i64 mk] 28 (0, 0)) * S))) (fun _ v _ => m - (intOf v).toNat)
  case atStart => exact ⟨0, .slice (some ⟨be + 1, 0, none⟩) 0 0, Nat.zero_le _, rfl, rfl, inferInstance, SepI.cast hlit (by rw [HO0.out]; rfl)⟩
  case round =>
    obtain ⟨i, vv, hi, rfl, rfl, HX, HS3⟩ := hrel
    by_cases hlt : i < m
    · obtain ⟨ev, hs1⟩ := get_ex (xs := t) (k := i) (by rw [← HM.out]; exact hlt)
      obtain ⟨bp, op, rfl⟩ := r.addr H (j := i) (by rw [cEvs_len, ← HM.out]; omega)
      have e1 := r.cell (cEvs_get hs1).1
      have e2 := r.cell (cEvs_get hs1).2.1
      have e3 := r.cell (cEvs_get hs1).2.2
      obtain ⟨A0, c0, rfl, hc0, hc1⟩ := Row.form HS3
      obtain ⟨q, hq⟩ : ∃ q, (ev.k == 4) = q := ⟨_, rfl⟩
      have HQ := Hd.mk hq
      have HS1 := Hd.mk hs1
      have hol := HOL.out i
      clear hs1
      cases q
      · go_wp2
        go_roundw
        case rel => exact ⟨i + 1, .slice A0 (O i).length c0, by omega, by go_num, rfl, inferInstance, SepI.cast (Ent.sep (S := _) (T := Row 3 1 (.slice A0 (O i).length c0) (O i).length (ints (O i)) * (pts be (.cells #[Value.int .i64 ki, .int .i64 va, .slice (some ⟨bp, op, none⟩) m c, .int .i64 mk] 28 (0, 0)) * S)) inferInstance inferInstance) (by rw [HON.out i ev HS1.out HQ.out])⟩
        case measure => (simp [intOf]; try omega)
      · go_wp2_with (at_builtin; go_must (refine ev_append (v := .slice A0 (O i).length c0) rfl _ _ 48 rfl rfl 8 _ Try.underlying48 info_int rfl (by decide) (by decide) (wr.heap.size) 1 1 rfl rfl (by simp [Value.oneCell']) (by omega) ?_); intro v1 w4 HS4 HE4)
        go_roundw
        case rel => exact ⟨i + 1, v1, by omega, by go_num, rfl, inferInstance, SepI.cast (Ent.sep (S := _) (T := Row 3 1 v1 ((O i).length + 1) (ints (O i) ++ [.int .i64 ev.v]) * (pts be (.cells #[Value.int .i64 ki, .int .i64 va, .slice (some ⟨bp, op, none⟩) m c, .int .i64 mk] 28 (0, 0)) * S)) inferInstance HS4) (by rw [HOY.out i ev HS1.out HQ.out, List.length_append, ints_append]; rfl)⟩
        case measure => (simp [intOf]; try omega)
    · have : i = m := by omega
      subst this
      obtain ⟨A0, c0, rfl, hc0, hc1⟩ := Row.form HS3
      go_wp2
      go_ret
      exact IntsPost.of (v := .slice A0 (O i).length c0) (Post.mk' (Ent.sep (S := _) inferInstance inferInstance) inferInstance)
set_option maxRecDepth 100000 in
set_option maxHeartbeats 8000000 in
theorem impl_SaidNumbersN (S : HP) (w : World) [H : SepI w S] (A : Option Addr) (c : Nat) (bs : List Bd) [r : Rd S A (cBds bs)] [B : Bodies S bs] (fn arg fuel : Int) (hv : askB (bs.map (·.l)) fn arg fuel = false) :
    Calls Try.prog 32 #[.agg #[.slice A bs.length c], .int .i64 fn, .int .i64 arg, .int .i64 fuel] w (IntsOk S [] false w) := by
  have hbn := B.n
  have HV := Hd.mk hv
  clear hv
  have hnot : ∀ (x : Bool) (w : World), (Op.unary .not (.bool x)).run Try.prog w = .ok (.bool (!x)) w := fun _ _ => rfl
  go_enter Try.func32, Try.ntmps32
  go_wp2_with fail
  refine (impl_ranN _ _ A c bs fn arg fuel HV.out).mono ?_
  rintro e w1 ⟨rfl, HP⟩
  have HS1 := HP.sep
  have HE1 := HP.ext
  clear HP
  go_wp2
  go_ret2
  exact IntsOk.nil (v := .slice none 0 0) (Post.mk' (Ent.sep (S := _) inferInstance (Row.nil0 HS1 3 1)) inferInstance)
set_option maxRecDepth 100000 in
set_option maxHeartbeats 8000000 in
theorem spec_SaidNumbersN (S : HP) (w : World) [H : SepI w S] (A : Option Addr) (c : Nat) (bs : List Bd) [r : Rd S A (cBds bs)] [B : Bodies S bs] (fn arg fuel : Int) (hv : askB (bs.map (·.l)) fn arg fuel = false) :
    Calls Try.prog 31 #[.agg #[.slice A bs.length c], .int .i64 fn, .int .i64 arg, .int .i64 fuel] w (IntsOk S [] false w) := by
  have hbn := B.n
  have HV := Hd.mk hv
  clear hv
  have hnot : ∀ (x : Bool) (w : World), (Op.unary .not (.bool x)).run Try.prog w = .ok (.bool (!x)) w := fun _ _ => rfl
  go_enter Try.func31, Try.ntmps31
  go_wp2_with fail
  refine (spec_l2Ask _ _ A c bs fn arg fuel _ HV.out).mono ?_
  rintro e w1 ⟨rfl, HP⟩
  have HS1 := HP.sep
  have HE1 := HP.ext
  clear HP
  go_wp2
  go_ret2
  exact IntsOk.nil (v := .slice (some ⟨w1.heap.size, 0, none⟩) 0 0) (Post.mk' (Ent.sep (S := _) inferInstance (Row.lit0 (size := 1) (SepI.i_alloc w1 (.cells #[] 3 (0, 0)) _ _))) inferInstance)
set_option maxRecDepth 100000 in
set_option maxHeartbeats 8000000 in
theorem impl_SaidNumbersV (S : HP) (w : World) [H : SepI w S] (A : Option Addr) (c : Nat) (bs : List Bd) [r : Rd S A (cBds bs)] [B : Bodies S bs] (fn arg : Int) (fu : Nat) (L : List (List St)) (hbs : bs.map (·.l) = L) (hv : askB L fn arg fu = true) :
    Calls Try.prog 32 #[.agg #[.slice A bs.length c], .int .i64 fn, .int .i64 arg, .int .i64 fu] w (IntsOk S (saidA (ranM L fn arg fu).m.trace) true w) := by
  have hbn := B.n
  have HV := Hd.mk hv
  have HB := Hd.mk hbs
  have HF := Hd.mk (factsB hv)
  clear hv hbs
  obtain ⟨R, hR⟩ : ∃ R, ranM L fn arg fu = R := ⟨_, rfl⟩
  have HR := Hd.mk hR
  rw [hR] at HF ⊢
  clear hR
  obtain ⟨m, hm⟩ : ∃ m, m = R.m.trace.length := ⟨_, rfl⟩
  have HM := Hd.mk hm
  obtain ⟨O, hO⟩ : ∃ O : Nat → List Int, O = fun i => saidA (R.m.trace.take i) := ⟨_, rfl⟩
  have HO0 : Hd (O 0 = []) := ⟨by rw [hO]; rfl⟩
  have HOM : Hd (O m = saidA R.m.trace) := ⟨by rw [hO, hm]; simp only [List.take_length]⟩
  have HOY : Hd (∀ (i : Nat) (e : Ev), R.m.trace[i]? = some e → (e.k == 4) = true → O (i + 1) = O i ++ [e.v]) := ⟨fun i e h hk => by rw [hO]; exact fm_yes h (by unfold saidF; rw [if_pos (by simpa using hk)])⟩
  have HON : Hd (∀ (i : Nat) (e : Ev), R.m.trace[i]? = some e → (e.k == 4) = false → O (i + 1) = O i) := ⟨fun i e h hk => by rw [hO]; exact fm_no h (by unfold saidF; rw [if_neg (by simpa using hk)])⟩
  have HOL : Hd (∀ i, (O i).length ≤ 1000) := ⟨fun i => by rw [hO]; exact Nat.le_trans (fm_len _ R.m.trace i) HF.out.ts⟩
  rw [← HOM.out]
  have hts := HF.out.ts
  rw [← hm] at hts
  clear hO
  have hnot : ∀ (x : Bool) (w : World), (Op.unary .not (.bool x)).run Try.prog w = .ok (.bool (!x)) w := fun _ _ => rfl
  go_enter Try.func32, Try.ntmps32
  go_wp2_with fail
  refine (impl_ranX _ _ A c bs fn arg fu L HB.out HV.out).mono ?_
  rw [HR.out]
  rintro e w1 ⟨gm, ⟨A1, c1, A2, c2, A3, c3, A4, c4, A5, c5, bm, ps⟩, S0, rfl, hps, M, HP⟩
  have i1 := M.blk
  have rT := M.tr
  have rO := M.ow
  have rC := M.ca
  have rP := M.pa
  have rR := M.rc
  dsimp only at hps i1 rT rO rC rP rR
  have HPS := Hd.mk hps
  have HM1 := Hd.mk M
  clear hps M
  have HS1 := HP.sep
  have HE1 := HP.ext
  clear HP
  rw [← hm] at i1
  clear hm
  obtain ⟨be, hbe⟩ : ∃ be, be = w1.heap.size := ⟨_, rfl⟩
  have hlit : SepI (w1.alloc (.cells #[] 3 (0, 0))) (Row 3 1 (.slice (some ⟨w1.heap.size, 0, none⟩) 0 0) 0 [] * S0) := Row.lit0 (SepI.i_alloc w1 (.cells #[] 3 (0, 0)) S0 _)
  have HBE := Hd.mk hbe
  clear hbe
  go_wp2
  rw [← HBE.out] at hlit ⊢
  go_loopw [12, 31] (fun v3 v4 wr => ∃ (i : Nat) (vv : Value), i ≤ m ∧ v4 = .int .i64 i ∧ v3 = vv ∧ ExtI w wr ∧ SepI wr (Row 3 1 vv (O i).length (ints (O i)) * S0)) (fun _ v _ => m - (intOf v).toNat)
  case atStart => exact ⟨0, .slice (some ⟨be, 0, none⟩) 0 0, Nat.zero_le _, rfl, rfl, inferInstance, SepI.cast hlit (by rw [HO0.out]; rfl)⟩
  case round =>
    obtain ⟨i, vv, hi, rfl, rfl, HX, HS3⟩ := hrel
    by_cases hlt : i < m
    · obtain ⟨ev, hs1⟩ := get_ex (xs := R.m.trace) (k := i) (by rw [← HM.out]; exact hlt)
      obtain ⟨bp, op, rfl⟩ := rT.addr HS1 (j := i) (by rw [cEvs_len, ← HM.out]; omega)
      have e1 := rT.cell (cEvs_get hs1).1
      have e2 := rT.cell (cEvs_get hs1).2.1
      have e3 := rT.cell (cEvs_get hs1).2.2
      obtain ⟨A0, c0, rfl, hc0, hc1⟩ := Row.form HS3
      obtain ⟨q, hq⟩ : ∃ q, (ev.k == 4) = q := ⟨_, rfl⟩
      have HQ := Hd.mk hq
      have HS1 := Hd.mk hs1
      have hol := HOL.out i
      clear hs1
      cases q
      · go_wp2
        go_roundw
        case rel => exact ⟨i + 1, .slice A0 (O i).length c0, by omega, by go_num, rfl, inferInstance, SepI.cast (Ent.sep (S := _) (T := Row 3 1 (.slice A0 (O i).length c0) (O i).length (ints (O i)) * S0) inferInstance inferInstance) (by rw [HON.out i ev HS1.out HQ.out])⟩
        case measure => (simp [intOf]; try omega)
      · go_wp2_with (at_builtin; go_must (refine ev_append (v := .slice A0 (O i).length c0) rfl _ _ 48 rfl rfl 8 _ Try.underlying48 info_int rfl (by decide) (by decide) (wr.heap.size + 1) 1 1 rfl rfl (by simp [Value.oneCell']) (by omega) ?_); intro v1 w4 HS4 HE4)
        go_roundw
        case rel => exact ⟨i + 1, v1, by omega, by go_num, rfl, inferInstance, SepI.cast (Ent.sep (S := _) (T := Row 3 1 v1 ((O i).length + 1) (ints (O i) ++ [.int .i64 ev.v]) * S0) inferInstance HS4) (by rw [HOY.out i ev HS1.out HQ.out, List.length_append, ints_append]; rfl)⟩
        case measure => (simp [intOf]; try omega)
    · have : i = m := by omega
      subst this
      obtain ⟨A0, c0, rfl, hc0, hc1⟩ := Row.form HS3
      go_wp2
      go_ret2
      exact IntsOk.of (v := .slice A0 (O i).length c0) (Post.mk' (Ent.sep (S := _) inferInstance (HM1.out.out (Ent.sep (S := _) (T := Row 3 1 (.slice A0 (O i).length c0) (O i).length (ints (O i)) * S0) inferInstance inferInstance))) inferInstance)
set_option maxRecDepth 100000 in
set_option maxHeartbeats 8000000 in
theorem spec_SaidNumbersV (S : HP) (w : World) [H : SepI w S] (A : Option Addr) (c : Nat) (bs : List Bd) [r : Rd S A (cBds bs)] [B : Bodies S bs] (hnn : NoneNil bs) (fn arg : Int) (fu : Nat) (L : List (List St)) (hbs : bs.map (·.l) = L) (hv : askB L fn arg fu = true) :
    Calls Try.prog 31 #[.agg #[.slice A bs.length c], .int .i64 fn, .int .i64 arg, .int .i64 fu] w (IntsOk S (saidA (ranM L fn arg fu).m.trace) true w) := by
  have HNN := Hd.mk hnn
  have HV2 : Hd (askB (bs.map (·.l)) fn arg fu = true) := ⟨by rw [hbs]; exact hv⟩
  clear hnn
  have hbn := B.n
  have HV := Hd.mk hv
  have HB := Hd.mk hbs
  have HF := Hd.mk (factsB hv)
  clear hv hbs
  obtain ⟨R, hR⟩ : ∃ R, ranM L fn arg fu = R := ⟨_, rfl⟩
  have HR := Hd.mk hR
  rw [hR] at HF ⊢
  clear hR
  have hnot : ∀ (x : Bool) (w : World), (Op.unary .not (.bool x)).run Try.prog w = .ok (.bool (!x)) w := fun _ _ => rfl
  go_enter Try.func31, Try.ntmps31
  go_wp2_with fail
  refine (spec_l2Ask _ _ A c bs fn arg fu _ HV2.out).mono ?_
  rintro e w1 ⟨rfl, HP⟩
  have HS1 := HP.sep
  have HE1 := HP.ext
  clear HP
  go_wp2_with fail
  refine (spec_runX _ _ A c bs HNN.out fn arg fu L HB.out HV.out).mono ?_
  rw [HR.out]
  rintro e w2 ⟨A2, c2, rfl, HP⟩
  have HS2 := HP.sep
  have HE2 := HP.ext
  clear HP
  go_wp2_with fail
  refine (spec_l2Says _ _ A2 c2 R.m.trace HF.out.ts _ _ _).mono ?_
  rintro e w3 ⟨A3, c3, rfl, HP⟩
  have HS3 := HP.sep
  have HE3 := HP.ext
  clear HP
  go_wp2
  go_ret2
  exact IntsOk.of (v := .slice A3 (saidA R.m.trace).length c3) (Post.mk' (Ent.sep (S := _) inferInstance inferInstance) inferInstance)
def ok_SaidNumbers (L : List (List St)) (fn arg fuel : Int) : Bool := askB L fn arg fuel
def ans_SaidNumbers (L : List (List St)) (fn arg fuel : Int) : List Int := if askB L fn arg fuel then saidA (ranM L fn arg fuel.toNat).m.trace else []
theorem ans_SaidNumbers_yes {L : List (List St)} {fn arg : Int} {fu : Nat} (h : askB L fn arg fu = true) : ans_SaidNumbers L fn arg fu = saidA (ranM L fn arg fu).m.trace := by unfold ans_SaidNumbers; rw [if_pos h]; rfl
theorem ans_SaidNumbers_no {L : List (List St)} {fn arg fuel : Int} (h : askB L fn arg fuel = false) : ans_SaidNumbers L fn arg fuel = [] := by unfold ans_SaidNumbers; rw [h]; rfl
theorem impl_SaidNumbersA (S : HP) (w : World) [H : SepI w S] (A : Option Addr) (c : Nat) (bs : List Bd) [r : Rd S A (cBds bs)] [B : Bodies S bs] (fn arg fuel : Int) :
    Calls Try.prog 32 #[.agg #[.slice A bs.length c], .int .i64 fn, .int .i64 arg, .int .i64 fuel] w (IntsOk S (ans_SaidNumbers (bs.map (·.l)) fn arg fuel) (ok_SaidNumbers (bs.map (·.l)) fn arg fuel) w) := by
  obtain ⟨v, hv⟩ : ∃ v, askB (bs.map (·.l)) fn arg fuel = v := ⟨_, rfl⟩
  have e : ok_SaidNumbers (bs.map (·.l)) fn arg fuel = v := hv
  rw [e]
  cases v
  · rw [ans_SaidNumbers_no hv]; exact impl_SaidNumbersN S w A c bs fn arg fuel hv
  · obtain ⟨fu, rfl⟩ : ∃ fu : Nat, fuel = fu := ⟨fuel.toNat, by have := (askB_of hv).2.2.2.1; omega⟩
    rw [ans_SaidNumbers_yes hv]; exact impl_SaidNumbersV S w A c bs fn arg fu _ rfl hv
theorem spec_SaidNumbersA (S : HP) (w : World) [H : SepI w S] (A : Option Addr) (c : Nat) (bs : List Bd) [r : Rd S A (cBds bs)] [B : Bodies S bs] (hnn : NoneNil bs) (fn arg fuel : Int) :
    Calls Try.prog 31 #[.agg #[.slice A bs.length c], .int .i64 fn, .int .i64 arg, .int .i64 fuel] w (IntsOk S (ans_SaidNumbers (bs.map (·.l)) fn arg fuel) (ok_SaidNumbers (bs.map (·.l)) fn arg fuel) w) := by
  obtain ⟨v, hv⟩ : ∃ v, askB (bs.map (·.l)) fn arg fuel = v := ⟨_, rfl⟩
  have e : ok_SaidNumbers (bs.map (·.l)) fn arg fuel = v := hv
  rw [e]
  cases v
  · rw [ans_SaidNumbers_no hv]; exact spec_SaidNumbersN S w A c bs fn arg fuel hv
  · obtain ⟨fu, rfl⟩ : ∃ fu : Nat, fuel = fu := ⟨fuel.toNat, by have := (askB_of hv).2.2.2.1; omega⟩
    rw [ans_SaidNumbers_yes hv]; exact spec_SaidNumbersV S w A c bs hnn fn arg fu _ rfl hv
theorem small_SaidNumbers (L : List (List St)) (fn arg fuel : Int) : (ans_SaidNumbers L fn arg fuel).length ≤ 1048576 := by
  obtain ⟨v, hv⟩ : ∃ v, askB L fn arg fuel = v := ⟨_, rfl⟩
  cases v
  · rw [ans_SaidNumbers_no hv]; simp
  · obtain ⟨fu, rfl⟩ : ∃ fu : Nat, fuel = fu := ⟨fuel.toNat, by have := (askB_of hv).2.2.2.1; omega⟩
    rw [ans_SaidNumbers_yes hv]
    have FF := factsB hv
    have hts := FF.ts
    have := fm_len' saidF (ranM L fn arg fu).m.trace; unfold saidA; omega
end Go.Proofs.Ythnaoedlnificaa
