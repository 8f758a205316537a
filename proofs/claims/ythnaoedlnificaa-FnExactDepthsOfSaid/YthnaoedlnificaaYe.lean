/- OwnersOf, CallTree, SavedCalls by the program and by the reference. Conditions: lengths within bounds. -/
import Derived.Test.YthnaoedlnificaaYc
import Derived.Test.YthnaoedlnificaaYd
namespace Go.Proofs.Ythnaoedlnificaa
open Go.RowKit SL
attribute [local go_sem] cell_blk frozen_blk lt_blk cell_at frozen_row lt_row
set_option linter.unusedVariables false
set_option linter.unusedSimpArgs false

theorem cCis_at {l : List Ci} {k : Nat} {x : Ci} (h : l[k]? = some x) : (cCis l)[k * 6]? = some (.int .i64 x.fn) ∧ (cCis l)[k * 6 + 1]? = some (.int .i64 x.up) ∧ (cCis l)[k * 6 + 2]? = some (.bool x.df) ∧ (cCis l)[k * 6 + 3]? = some (.int .i64 x.en) ∧ (cCis l)[k * 6 + 4]? = some (.int .i64 x.va) ∧ (cCis l)[k * 6 + 5]? = some (.int .i64 x.ar) :=
  ⟨flat_get (f := cCi) (k := 6) (fun _ => rfl) h 0 (by omega), flat_get (f := cCi) (k := 6) (fun _ => rfl) h 1 (by omega), flat_get (f := cCi) (k := 6) (fun _ => rfl) h 2 (by omega), flat_get (f := cCi) (k := 6) (fun _ => rfl) h 3 (by omega), flat_get (f := cCi) (k := 6) (fun _ => rfl) h 4 (by omega), flat_get (f := cCi) (k := 6) (fun _ => rfl) h 5 (by omega)⟩
/-- A row of calls beside a bool. -/
def C5Ok (S : HP) (l : List C5) (ok : Bool) (w : World) (e : Ending) (w' : World) : Prop := ∃ A c, e = two (.slice A l.length c) (.bool ok) ∧ Post w (Row 89 5 (.slice A l.length c) l.length (cC5s l) * S) w'
theorem C5Ok.of {S : HP} {l : List C5} {ok : Bool} {w w' : World} {v : Value} (h : Post w (Row 89 5 v l.length (cC5s l) * S) w') : C5Ok S l ok w (two v (.bool ok)) w' := by
  obtain ⟨A, c, rfl, _⟩ := Row.form h.sep
  exact ⟨A, c, rfl, h⟩
theorem C5Ok.nil {S : HP} {ok : Bool} {w w' : World} {v : Value} (h : Post w (Row 89 5 v 0 [] * S) w') : C5Ok S [] ok w (two v (.bool ok)) w' := C5Ok.of (l := []) h
/-! Whose an event is. -/
theorem own6 {R : Run} (F : Facts R) {i : Nat} {e : Ev} {o : Int} (h1 : R.m.trace[i]? = some e) (h2 : R.m.owners[i]? = some o) (hk : e.k = 6) : ∃ j : Nat, o = j ∧ j < R.m.calls.length := by
  have h3 : (R.m.trace.zip R.m.owners)[i]? = some (e, o) := by rw [List.getElem?_zip_eq_some]; exact ⟨h1, h2⟩
  have h4 : o ∈ (R.m.trace.zip R.m.owners).filterMap (fun x => if x.1.k = 6 then some x.2 else none) := List.mem_filterMap.2 ⟨(e, o), List.mem_of_getElem? h3, by simp [hk]⟩
  rw [← read5_eq, F.r5] at h4
  obtain ⟨r, hr, rfl⟩ := List.mem_map.1 h4
  obtain ⟨g1, ⟨c, hc, _⟩, _⟩ := F.rs.ok r hr
  exact ⟨r.ca.toNat, by omega, (List.getElem?_eq_some_iff.1 hc).1⟩
theorem own3 {t : List Ev} : ∀ {i : Nat}, i ≤ t.length → ∀ {q : R3}, read3 (t.take i) = some q → ∀ (j : Nat) (e : Ev) (o : Int), j < i → t[j]? = some e → q.owners[j]? = some o → (e.k = 1 ∨ e.k = 3) → ∃ n : Nat, o = n ∧ n < q.calls.length
  | 0, _, q, h, j, e, o, hj, _, _, _ => by omega
  | i + 1, hi, q, h, j, e, o, hj, he, ho, hk => by
    obtain ⟨⟨k, f, v⟩, hx⟩ := get_ex (xs := t) (k := i) (by omega)
    have hn := read3_next hx
    rw [hn] at h
    cases hq : read3 (t.take i) with
    | none => rw [hq] at h; cases h
    | some p =>
      rw [hq, Option.bind_some] at h
      have hl := read3_len (Nat.le_of_succ_le hi) hq
      obtain ⟨cs, os, now⟩ := p
      by_cases hji : j = i
      · subst hji
        rw [hx] at he
        injection he with he
        subst he
        rw [step3_open hk] at h
        injection h with h
        subst h
        have hol : os.length = j := hl.1
        have ho : (os ++ [(cs.length : Int)])[j]? = some o := ho
        rw [← hol, List.getElem?_concat_length] at ho
        injection ho with ho
        exact ⟨cs.length, ho.symm, by simp⟩
      · have hold : os[j]? = some o → ∃ n : Nat, o = n ∧ n < cs.length := fun g => own3 (Nat.le_of_succ_le hi) hq j e o (by omega) he g hk
        by_cases k13 : k = 1 ∨ k = 3
        · rw [step3_open k13] at h
          injection h with h
          subst h
          have ho : (os ++ [(cs.length : Int)])[j]? = some o := ho
          have hol : os.length = i := hl.1
          rw [List.getElem?_append_left (by omega)] at ho
          obtain ⟨n, e1, e2⟩ := hold ho
          exact ⟨n, e1, by show n < (cs ++ [_]).length; rw [List.length_append]; omega⟩
        · have hol : os.length = i := hl.1
          by_cases h0 : end3 k = 0
          · rw [step3_none k13 h0] at h
            injection h with h
            subst h
            have ho : (os ++ [now])[j]? = some o := ho
            rw [List.getElem?_append_left (by omega)] at ho
            exact hold ho
          · obtain ⟨n, c, rfl, _, rfl⟩ := step3_shut k13 h0 h
            have ho : (os ++ [(n : Int)])[j]? = some o := ho
            rw [List.getElem?_append_left (by omega)] at ho
            obtain ⟨a, e1, e2⟩ := hold ho
            exact ⟨a, e1, by show a < (cs.set _ _).length; rw [List.length_set]; exact e2⟩
theorem upAt_get {cs : List C5} {j : Nat} {c : C5} (h : cs[j]? = some c) : upAt cs j = c.up := by unfold upAt; rw [Int.toNat_natCast, List.getD_eq_getElem?_getD, h]; rfl
set_option maxRecDepth 100000 in
set_option maxHeartbeats 8000000 in
theorem impl_OwnersOfN (S : HP) (w : World) [H : SepI w S] (A : Option Addr) (c : Nat) (bs : List Bd) [r : Rd S A (cBds bs)] [B : Bodies S bs] (fn arg fuel : Int) (hv : askB (bs.map (·.l)) fn arg fuel = false) :
    Calls Try.prog 37 #[.agg #[.slice A bs.length c], .int .i64 fn, .int .i64 arg, .int .i64 fuel] w (IntsOk S [] false w) := by
  have hbn := B.n
  have HV := Hd.mk hv
  clear hv
  have hnot : ∀ (x : Bool) (w : World), (Op.unary .not (.bool x)).run Try.prog w = .ok (.bool (!x)) w := fun _ _ => rfl
  go_enter Try.func37, Try.ntmps37
  go_wp2_with fail
  refine (impl_ranN _ _ A c bs fn arg fuel HV.out).mono ?_
  rintro e w1 ⟨rfl, HP⟩
  have HS1 := HP.sep
  have HE1 := HP.ext
  clear HP
  go_wp2
  go_ret2
  exact IntsOk.nil (v := .slice none 0 0) (Post.mk' (Ent.sep (S := _) inferInstance (Row.nil0 HS1 3 1)) inferInstance)
set_option maxRecDepth 100000 in
set_option maxHeartbeats 8000000 in
theorem spec_OwnersOfN (S : HP) (w : World) [H : SepI w S] (A : Option Addr) (c : Nat) (bs : List Bd) [r : Rd S A (cBds bs)] [B : Bodies S bs] (fn arg fuel : Int) (hv : askB (bs.map (·.l)) fn arg fuel = false) :
    Calls Try.prog 36 #[.agg #[.slice A bs.length c], .int .i64 fn, .int .i64 arg, .int .i64 fuel] w (IntsOk S [] false w) := by
  have hbn := B.n
  have HV := Hd.mk hv
  clear hv
  have hnot : ∀ (x : Bool) (w : World), (Op.unary .not (.bool x)).run Try.prog w = .ok (.bool (!x)) w := fun _ _ => rfl
  go_enter Try.func36, Try.ntmps36
  go_wp2_with fail
  refine (spec_l2Ask _ _ A c bs fn arg fuel _ HV.out).mono ?_
  rintro e w1 ⟨rfl, HP⟩
  have HS1 := HP.sep
  have HE1 := HP.ext
  clear HP
  go_wp2
  go_ret2
  exact IntsOk.nil (v := .slice (some ⟨w1.heap.size, 0, none⟩) 0 0) (Post.mk' (Ent.sep (S := _) inferInstance (Row.lit0 (size := 1) (SepI.i_alloc w1 (.cells #[] 3 (0, 0)) _ _))) inferInstance)
set_option maxRecDepth 100000 in
set_option maxHeartbeats 8000000 in
theorem impl_OwnersOfV (S : HP) (w : World) [H : SepI w S] (A : Option Addr) (c : Nat) (bs : List Bd) [r : Rd S A (cBds bs)] [B : Bodies S bs] (fn arg : Int) (fu : Nat) (L : List (List St)) (hbs : bs.map (·.l) = L) (hv : askB L fn arg fu = true) :
    Calls Try.prog 37 #[.agg #[.slice A bs.length c], .int .i64 fn, .int .i64 arg, .int .i64 fu] w (IntsOk S (ranM L fn arg fu).m.owners true w) := by
  have hbn := B.n
  have HV := Hd.mk hv
  have HB := Hd.mk hbs
  have HF := Hd.mk (factsB hv)
  clear hv hbs
  obtain ⟨R, hR⟩ : ∃ R, ranM L fn arg fu = R := ⟨_, rfl⟩
  have HR := Hd.mk hR
  rw [hR] at HF ⊢
  clear hR
  have hnot : ∀ (x : Bool) (w : World), (Op.unary .not (.bool x)).run Try.prog w = .ok (.bool (!x)) w := fun _ _ => rfl
  go_enter Try.func37, Try.ntmps37
  go_wp2_with fail
  refine (impl_ranA _ _ A c bs fn arg fu L HB.out HV.out).mono ?_
  rw [HR.out]
  rintro e w1 ⟨gm, x, rfl, hps, HP⟩
  clear hps
  have HS1 := HP.sep
  have HE1 := HP.ext
  clear HP
  unfold MachRC at HS1
  go_wp2
  go_ret2
  exact IntsOk.of (v := .slice x.A2 R.m.owners.length x.c2) (Post.mk' (Ent.sep (S := _) inferInstance inferInstance) inferInstance)
set_option maxRecDepth 100000 in
set_option maxHeartbeats 8000000 in
theorem spec_OwnersOfV (S : HP) (w : World) [H : SepI w S] (A : Option Addr) (c : Nat) (bs : List Bd) [r : Rd S A (cBds bs)] [B : Bodies S bs] (hnn : NoneNil bs) (fn arg : Int) (fu : Nat) (L : List (List St)) (hbs : bs.map (·.l) = L) (hv : askB L fn arg fu = true) :
    Calls Try.prog 36 #[.agg #[.slice A bs.length c], .int .i64 fn, .int .i64 arg, .int .i64 fu] w (IntsOk S (ranM L fn arg fu).m.owners true w) := by
  have HNN := Hd.mk hnn
  have HV2 : Hd (askB (bs.map (·.l)) fn arg fu = true) := ⟨by rw [hbs]; exact hv⟩
  clear hnn
  have hbn := B.n
  have HV := Hd.mk hv
  have HB := Hd.mk hbs
  have HF := Hd.mk (factsB hv)
  clear hv hbs
  obtain ⟨R, hR⟩ : ∃ R, ranM L fn arg fu = R := ⟨_, rfl⟩
  have HR := Hd.mk hR
  rw [hR] at HF ⊢
  clear hR
  obtain ⟨C, hC⟩ : ∃ C, R.m.calls.map c5 = C := ⟨_, rfl⟩
  try rw [hC]
  have HC := Hd.mk hC
  clear hC
  have hnot : ∀ (x : Bool) (w : World), (Op.unary .not (.bool x)).run Try.prog w = .ok (.bool (!x)) w := fun _ _ => rfl
  go_enter Try.func36, Try.ntmps36
  go_wp2_with fail
  refine (spec_l2Ask _ _ A c bs fn arg fu _ HV2.out).mono ?_
  rintro e w1 ⟨rfl, HP⟩
  have HS1 := HP.sep
  have HE1 := HP.ext
  clear HP
  go_wp2_with fail
  refine (spec_runX _ _ A c bs HNN.out fn arg fu L HB.out HV.out).mono ?_
  rw [HR.out]
  rintro e w2 ⟨A2, c2, rfl, HP⟩
  have HS2 := HP.sep
  have HE2 := HP.ext
  clear HP
  try simp only []
  rename_i hK
  refine hK _ _ ?_
  clear hK
  refine ev_val rfl _ rfl ?_
  obtain ⟨now, hr3⟩ := HF.out.r3
  rw [HC.out] at hr3
  have HR3 := Hd.mk hr3
  clear hr3
  go_wp2_with fail
  refine (@spec_l3Read _ w2 HS2 A2 c2 R.m.trace inferInstance HF.out.ts _ _ now HR3.out).mono ?_
  rintro e w3 ⟨Ac, cc, Ao, oc, rfl, HP⟩
  have HS3 := HP.sep
  have HE3 := HP.ext
  clear HP
  try simp only []
  rename_i hK
  refine hK _ _ ?_
  clear hK
  refine ev_val rfl _ rfl ?_
  go_wp2
  go_ret2
  exact IntsOk.of (v := .slice Ao R.m.owners.length oc) (Post.mk' (Ent.sep (S := _) inferInstance inferInstance) inferInstance)
def ok_OwnersOf (L : List (List St)) (fn arg fuel : Int) : Bool := askB L fn arg fuel
def ans_OwnersOf (L : List (List St)) (fn arg fuel : Int) : List Int := if askB L fn arg fuel then (ranM L fn arg fuel.toNat).m.owners else []
theorem ans_OwnersOf_yes {L : List (List St)} {fn arg : Int} {fu : Nat} (h : askB L fn arg fu = true) : ans_OwnersOf L fn arg fu = (ranM L fn arg fu).m.owners := by unfold ans_OwnersOf; rw [if_pos h]; rfl
theorem ans_OwnersOf_no {L : List (List St)} {fn arg fuel : Int} (h : askB L fn arg fuel = false) : ans_OwnersOf L fn arg fuel = [] := by unfold ans_OwnersOf; rw [h]; rfl
theorem impl_OwnersOfA (S : HP) (w : World) [H : SepI w S] (A : Option Addr) (c : Nat) (bs : List Bd) [r : Rd S A (cBds bs)] [B : Bodies S bs] (fn arg fuel : Int) :
    Calls Try.prog 37 #[.agg #[.slice A bs.length c], .int .i64 fn, .int .i64 arg, .int .i64 fuel] w (IntsOk S (ans_OwnersOf (bs.map (·.l)) fn arg fuel) (ok_OwnersOf (bs.map (·.l)) fn arg fuel) w) := by
  obtain ⟨v, hv⟩ : ∃ v, askB (bs.map (·.l)) fn arg fuel = v := ⟨_, rfl⟩
  have e : ok_OwnersOf (bs.map (·.l)) fn arg fuel = v := hv
  rw [e]
  cases v
  · rw [ans_OwnersOf_no hv]; exact impl_OwnersOfN S w A c bs fn arg fuel hv
  · obtain ⟨fu, rfl⟩ : ∃ fu : Nat, fuel = fu := ⟨fuel.toNat, by have := (askB_of hv).2.2.2.1; omega⟩
    rw [ans_OwnersOf_yes hv]; exact impl_OwnersOfV S w A c bs fn arg fu _ rfl hv
theorem spec_OwnersOfA (S : HP) (w : World) [H : SepI w S] (A : Option Addr) (c : Nat) (bs : List Bd) [r : Rd S A (cBds bs)] [B : Bodies S bs] (hnn : NoneNil bs) (fn arg fuel : Int) :
    Calls Try.prog 36 #[.agg #[.slice A bs.length c], .int .i64 fn, .int .i64 arg, .int .i64 fuel] w (IntsOk S (ans_OwnersOf (bs.map (·.l)) fn arg fuel) (ok_OwnersOf (bs.map (·.l)) fn arg fuel) w) := by
  obtain ⟨v, hv⟩ : ∃ v, askB (bs.map (·.l)) fn arg fuel = v := ⟨_, rfl⟩
  have e : ok_OwnersOf (bs.map (·.l)) fn arg fuel = v := hv
  rw [e]
  cases v
  · rw [ans_OwnersOf_no hv]; exact spec_OwnersOfN S w A c bs fn arg fuel hv
  · obtain ⟨fu, rfl⟩ : ∃ fu : Nat, fuel = fu := ⟨fuel.toNat, by have := (askB_of hv).2.2.2.1; omega⟩
    rw [ans_OwnersOf_yes hv]; exact spec_OwnersOfV S w A c bs hnn fn arg fu _ rfl hv
theorem small_OwnersOf (L : List (List St)) (fn arg fuel : Int) : (ans_OwnersOf L fn arg fuel).length ≤ 1048576 := by
  obtain ⟨v, hv⟩ : ∃ v, askB L fn arg fuel = v := ⟨_, rfl⟩
  cases v
  · rw [ans_OwnersOf_no hv]; simp
  · obtain ⟨fu, rfl⟩ : ∃ fu : Nat, fuel = fu := ⟨fuel.toNat, by have := (askB_of hv).2.2.2.1; omega⟩
    rw [ans_OwnersOf_yes hv]
    have FF := factsB hv
    have hts := FF.ts
    have := FF.len; omega
set_option maxRecDepth 100000 in
set_option maxHeartbeats 8000000 in
theorem impl_CallTreeN (S : HP) (w : World) [H : SepI w S] (A : Option Addr) (c : Nat) (bs : List Bd) [r : Rd S A (cBds bs)] [B : Bodies S bs] (fn arg fuel : Int) (hv : askB (bs.map (·.l)) fn arg fuel = false) :
    Calls Try.prog 46 #[.agg #[.slice A bs.length c], .int .i64 fn, .int .i64 arg, .int .i64 fuel] w (C5Ok S [] false w) := by
  have hbn := B.n
  have HV := Hd.mk hv
  clear hv
  have hnot : ∀ (x : Bool) (w : World), (Op.unary .not (.bool x)).run Try.prog w = .ok (.bool (!x)) w := fun _ _ => rfl
  go_enter Try.func46, Try.ntmps46
  go_wp2_with fail
  refine (impl_ranN _ _ A c bs fn arg fuel HV.out).mono ?_
  rintro e w1 ⟨rfl, HP⟩
  have HS1 := HP.sep
  have HE1 := HP.ext
  clear HP
  go_wp2
  go_ret2
  exact C5Ok.nil (v := .slice none 0 0) (Post.mk' (Ent.sep (S := _) inferInstance (Row.nil0 HS1 89 5)) inferInstance)
set_option maxRecDepth 100000 in
set_option maxHeartbeats 8000000 in
theorem spec_CallTreeN (S : HP) (w : World) [H : SepI w S] (A : Option Addr) (c : Nat) (bs : List Bd) [r : Rd S A (cBds bs)] [B : Bodies S bs] (fn arg fuel : Int) (hv : askB (bs.map (·.l)) fn arg fuel = false) :
    Calls Try.prog 45 #[.agg #[.slice A bs.length c], .int .i64 fn, .int .i64 arg, .int .i64 fuel] w (C5Ok S [] false w) := by
  have hbn := B.n
  have HV := Hd.mk hv
  clear hv
  have hnot : ∀ (x : Bool) (w : World), (Op.unary .not (.bool x)).run Try.prog w = .ok (.bool (!x)) w := fun _ _ => rfl
  go_enter Try.func45, Try.ntmps45
  go_wp2_with fail
  refine (spec_l2Ask _ _ A c bs fn arg fuel _ HV.out).mono ?_
  rintro e w1 ⟨rfl, HP⟩
  have HS1 := HP.sep
  have HE1 := HP.ext
  clear HP
  go_wp2
  go_ret2
  exact C5Ok.nil (v := .slice (some ⟨w1.heap.size, 0, none⟩) 0 0) (Post.mk' (Ent.sep (S := _) inferInstance (Row.lit0 (size := 5) (SepI.i_alloc w1 (.cells #[] 89 (0, 0)) _ _))) inferInstance)
set_option maxRecDepth 100000 in
set_option maxHeartbeats 8000000 in
theorem impl_CallTreeV (S : HP) (w : World) [H : SepI w S] (A : Option Addr) (c : Nat) (bs : List Bd) [r : Rd S A (cBds bs)] [B : Bodies S bs] (fn arg : Int) (fu : Nat) (L : List (List St)) (hbs : bs.map (·.l) = L) (hv : askB L fn arg fu = true) :
    Calls Try.prog 46 #[.agg #[.slice A bs.length c], .int .i64 fn, .int .i64 arg, .int .i64 fu] w (C5Ok S ((ranM L fn arg fu).m.calls.map c5) true w) := by
  have hbn := B.n
  have HV := Hd.mk hv
  have HB := Hd.mk hbs
  have HF := Hd.mk (factsB hv)
  clear hv hbs
  obtain ⟨R, hR⟩ : ∃ R, ranM L fn arg fu = R := ⟨_, rfl⟩
  have HR := Hd.mk hR
  rw [hR] at HF ⊢
  clear hR
  obtain ⟨m, hm⟩ : ∃ m, m = R.m.calls.length := ⟨_, rfl⟩
  have HM := Hd.mk hm
  obtain ⟨O, hO⟩ : ∃ O : Nat → List C5, O = fun i => (R.m.calls.take i).map c5 := ⟨_, rfl⟩
  have HO0 : Hd (O 0 = []) := ⟨by rw [hO]; rfl⟩
  have HOM : Hd (O m = R.m.calls.map c5) := ⟨by rw [hO, hm]; simp only [List.take_length]⟩
  have HOY : Hd (∀ (i : Nat) (x : Ci), R.m.calls[i]? = some x → O (i + 1) = O i ++ [c5 x]) := ⟨fun i x h => by rw [hO]; simp only; rw [take_succ_eq h, List.map_append]; rfl⟩
  have HOL : Hd (∀ i, (O i).length ≤ 1000) := ⟨fun i => by
    rw [hO]
    have h1 := HF.out.bl.c
    have h2 := HF.out.ts
    simp only [List.length_map, List.length_take]
    omega⟩
  have hml : m ≤ 1000 := by have h1 := HF.out.bl.c; have h2 := HF.out.ts; omega
  rw [← HOM.out]
  clear hO
  have hnot : ∀ (x : Bool) (w : World), (Op.unary .not (.bool x)).run Try.prog w = .ok (.bool (!x)) w := fun _ _ => rfl
  go_enter Try.func46, Try.ntmps46
  go_wp2_with fail
  refine (impl_ranX _ _ A c bs fn arg fu L HB.out HV.out).mono ?_
  rw [HR.out]
  rintro e w1 ⟨gm, ⟨A1, c1, A2, c2, A3, c3, A4, c4, A5, c5, bm, ps⟩, S0, rfl, hps, M, HP⟩
  have i1 := M.blk
  have rT := M.tr
  have rO := M.ow
  have rC := M.ca
  have rP := M.pa
  have rR := M.rc
  dsimp only at hps i1 rT rO rC rP rR
  have HPS := Hd.mk hps
  have HM1 := Hd.mk M
  clear hps M
  have HS1 := HP.sep
  have HE1 := HP.ext
  clear HP
  rw [← hm] at i1
  clear hm
  obtain ⟨be, hbe⟩ : ∃ be, be = w1.heap.size := ⟨_, rfl⟩
  have hlit : SepI (w1.alloc (.cells #[] 89 (0, 0))) (Row 89 5 (.slice (some ⟨w1.heap.size, 0, none⟩) 0 0) 0 [] * S0) := Row.lit0 (SepI.i_alloc w1 (.cells #[] 89 (0, 0)) S0 _)
  have HBE := Hd.mk hbe
  clear hbe
  go_wp2
  rw [← HBE.out] at hlit ⊢
  go_loopw [12, 31] (fun v3 v4 wr => ∃ (i : Nat) (vv : Value), i ≤ m ∧ v4 = .int .i64 i ∧ v3 = vv ∧ ExtI w wr ∧ SepI wr (Row 89 5 vv (O i).length (cC5s (O i)) * S0)) (fun _ v _ => m - (intOf v).toNat)
  case atStart => exact ⟨0, .slice (some ⟨be, 0, none⟩) 0 0, Nat.zero_le _, rfl, rfl, inferInstance, SepI.cast hlit (by rw [HO0.out]; rfl)⟩
  case round =>
    obtain ⟨i, vv, hi, rfl, rfl, HX, HS3⟩ := hrel
    by_cases hlt : i < m
    · obtain ⟨x, hs1⟩ := get_ex (xs := R.m.calls) (k := i) (by rw [← HM.out]; exact hlt)
      obtain ⟨bp, op, rfl⟩ := rC.addr HS1 (j := i) (by rw [cCis_len, ← HM.out]; omega)
      have e1 := rC.cell (cCis_at hs1).1
      have e2 := rC.cell (cCis_at hs1).2.1
      have e3 := rC.cell (cCis_at hs1).2.2.1
      have e4 := rC.cell (cCis_at hs1).2.2.2.1
      have e5 := rC.cell (cCis_at hs1).2.2.2.2.1
      have e6 := rC.cell (cCis_at hs1).2.2.2.2.2
      obtain ⟨A0, c0, rfl, hc0, hc1⟩ := Row.form HS3
      have HS1 := Hd.mk hs1
      have hol := HOL.out i
      have HCC : Hd (cC5s (O i) ++ #[.int .i64 x.fn, .int .i64 x.up, .bool x.df, .int .i64 x.en, .int .i64 x.va].toList = cC5s (O (i + 1))) := ⟨by rw [HOY.out i x hs1, cC5s_append]; rfl⟩
      have HLL : Hd ((O i).length + 1 = (O (i + 1)).length) := ⟨by rw [HOY.out i x hs1]; simp⟩
      clear hs1
      go_wp2_with (at_builtin; go_must (refine ev_append (v := .slice A0 (O i).length c0) rfl _ _ 58 rfl rfl 40 _ Try.underlying58 info_c5 rfl (by decide) (by decide) (wr.heap.size + 1) 1 1 rfl rfl (by simp [Value.oneCell']) (by omega) ?_); intro v1 w4 HS4 HE4; replace HS4 := Row.as HS4 HLL.out HCC.out)
      go_roundw
      case rel => exact ⟨i + 1, v1, by omega, by go_num, rfl, inferInstance, Ent.sep (S := _) (T := Row 89 5 v1 (O (i + 1)).length (cC5s (O (i + 1))) * S0) inferInstance HS4⟩
      case measure => (simp [intOf]; try omega)
    · have : i = m := by omega
      subst this
      obtain ⟨A0, c0, rfl, hc0, hc1⟩ := Row.form HS3
      go_wp2
      go_ret2
      exact C5Ok.of (v := .slice A0 (O i).length c0) (Post.mk' (Ent.sep (S := _) inferInstance (HM1.out.out (Ent.sep (S := _) (T := Row 89 5 (.slice A0 (O i).length c0) (O i).length (cC5s (O i)) * S0) inferInstance inferInstance))) inferInstance)
set_option maxRecDepth 100000 in
set_option maxHeartbeats 8000000 in
theorem spec_CallTreeV (S : HP) (w : World) [H : SepI w S] (A : Option Addr) (c : Nat) (bs : List Bd) [r : Rd S A (cBds bs)] [B : Bodies S bs] (hnn : NoneNil bs) (fn arg : Int) (fu : Nat) (L : List (List St)) (hbs : bs.map (·.l) = L) (hv : askB L fn arg fu = true) :
    Calls Try.prog 45 #[.agg #[.slice A bs.length c], .int .i64 fn, .int .i64 arg, .int .i64 fu] w (C5Ok S ((ranM L fn arg fu).m.calls.map c5) true w) := by
  have HNN := Hd.mk hnn
  have HV2 : Hd (askB (bs.map (·.l)) fn arg fu = true) := ⟨by rw [hbs]; exact hv⟩
  clear hnn
  have hbn := B.n
  have HV := Hd.mk hv
  have HB := Hd.mk hbs
  have HF := Hd.mk (factsB hv)
  clear hv hbs
  obtain ⟨R, hR⟩ : ∃ R, ranM L fn arg fu = R := ⟨_, rfl⟩
  have HR := Hd.mk hR
  rw [hR] at HF ⊢
  clear hR
  obtain ⟨C, hC⟩ : ∃ C, R.m.calls.map c5 = C := ⟨_, rfl⟩
  try rw [hC]
  have HC := Hd.mk hC
  clear hC
  have hnot : ∀ (x : Bool) (w : World), (Op.unary .not (.bool x)).run Try.prog w = .ok (.bool (!x)) w := fun _ _ => rfl
  go_enter Try.func45, Try.ntmps45
  go_wp2_with fail
  refine (spec_l2Ask _ _ A c bs fn arg fu _ HV2.out).mono ?_
  rintro e w1 ⟨rfl, HP⟩
  have HS1 := HP.sep
  have HE1 := HP.ext
  clear HP
  go_wp2_with fail
  refine (spec_runX _ _ A c bs HNN.out fn arg fu L HB.out HV.out).mono ?_
  rw [HR.out]
  rintro e w2 ⟨A2, c2, rfl, HP⟩
  have HS2 := HP.sep
  have HE2 := HP.ext
  clear HP
  try simp only []
  rename_i hK
  refine hK _ _ ?_
  clear hK
  refine ev_val rfl _ rfl ?_
  obtain ⟨now, hr3⟩ := HF.out.r3
  rw [HC.out] at hr3
  have HR3 := Hd.mk hr3
  clear hr3
  go_wp2_with fail
  refine (@spec_l3Read _ w2 HS2 A2 c2 R.m.trace inferInstance HF.out.ts _ _ now HR3.out).mono ?_
  rintro e w3 ⟨Ac, cc, Ao, oc, rfl, HP⟩
  have HS3 := HP.sep
  have HE3 := HP.ext
  clear HP
  try simp only []
  rename_i hK
  refine hK _ _ ?_
  clear hK
  refine ev_val rfl _ rfl ?_
  go_wp2
  go_ret2
  exact C5Ok.of (v := .slice Ac C.length cc) (Post.mk' (Ent.sep (S := _) inferInstance inferInstance) inferInstance)
def ok_CallTree (L : List (List St)) (fn arg fuel : Int) : Bool := askB L fn arg fuel
def ans_CallTree (L : List (List St)) (fn arg fuel : Int) : List C5 := if askB L fn arg fuel then (ranM L fn arg fuel.toNat).m.calls.map c5 else []
theorem ans_CallTree_yes {L : List (List St)} {fn arg : Int} {fu : Nat} (h : askB L fn arg fu = true) : ans_CallTree L fn arg fu = (ranM L fn arg fu).m.calls.map c5 := by unfold ans_CallTree; rw [if_pos h]; rfl
theorem ans_CallTree_no {L : List (List St)} {fn arg fuel : Int} (h : askB L fn arg fuel = false) : ans_CallTree L fn arg fuel = [] := by unfold ans_CallTree; rw [h]; rfl
theorem impl_CallTreeA (S : HP) (w : World) [H : SepI w S] (A : Option Addr) (c : Nat) (bs : List Bd) [r : Rd S A (cBds bs)] [B : Bodies S bs] (fn arg fuel : Int) :
    Calls Try.prog 46 #[.agg #[.slice A bs.length c], .int .i64 fn, .int .i64 arg, .int .i64 fuel] w (C5Ok S (ans_CallTree (bs.map (·.l)) fn arg fuel) (ok_CallTree (bs.map (·.l)) fn arg fuel) w) := by
  obtain ⟨v, hv⟩ : ∃ v, askB (bs.map (·.l)) fn arg fuel = v := ⟨_, rfl⟩
  have e : ok_CallTree (bs.map (·.l)) fn arg fuel = v := hv
  rw [e]
  cases v
  · rw [ans_CallTree_no hv]; exact impl_CallTreeN S w A c bs fn arg fuel hv
  · obtain ⟨fu, rfl⟩ : ∃ fu : Nat, fuel = fu := ⟨fuel.toNat, by have := (askB_of hv).2.2.2.1; omega⟩
    rw [ans_CallTree_yes hv]; exact impl_CallTreeV S w A c bs fn arg fu _ rfl hv
theorem spec_CallTreeA (S : HP) (w : World) [H : SepI w S] (A : Option Addr) (c : Nat) (bs : List Bd) [r : Rd S A (cBds bs)] [B : Bodies S bs] (hnn : NoneNil bs) (fn arg fuel : Int) :
    Calls Try.prog 45 #[.agg #[.slice A bs.length c], .int .i64 fn, .int .i64 arg, .int .i64 fuel] w (C5Ok S (ans_CallTree (bs.map (·.l)) fn arg fuel) (ok_CallTree (bs.map (·.l)) fn arg fuel) w) := by
  obtain ⟨v, hv⟩ : ∃ v, askB (bs.map (·.l)) fn arg fuel = v := ⟨_, rfl⟩
  have e : ok_CallTree (bs.map (·.l)) fn arg fuel = v := hv
  rw [e]
  cases v
  · rw [ans_CallTree_no hv]; exact spec_CallTreeN S w A c bs fn arg fuel hv
  · obtain ⟨fu, rfl⟩ : ∃ fu : Nat, fuel = fu := ⟨fuel.toNat, by have := (askB_of hv).2.2.2.1; omega⟩
    rw [ans_CallTree_yes hv]; exact spec_CallTreeV S w A c bs hnn fn arg fu _ rfl hv
theorem small_CallTree (L : List (List St)) (fn arg fuel : Int) : (ans_CallTree L fn arg fuel).length ≤ 1048576 := by
  obtain ⟨v, hv⟩ : ∃ v, askB L fn arg fuel = v := ⟨_, rfl⟩
  cases v
  · rw [ans_CallTree_no hv]; simp
  · obtain ⟨fu, rfl⟩ : ∃ fu : Nat, fuel = fu := ⟨fuel.toNat, by have := (askB_of hv).2.2.2.1; omega⟩
    rw [ans_CallTree_yes hv]
    have FF := factsB hv
    have hts := FF.ts
    have := FF.bl.c; rw [List.length_map]; omega
end Go.Proofs.Ythnaoedlnificaa
