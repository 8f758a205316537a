/- Pairs that a run tells: pairs by a closure's contract; ResultsOf. Conditions: lengths within bounds. -/
import Derived.Test.YthnaoedlnificaaYc
import Derived.Test.YthnaoedlnificaaQc
namespace Go.Proofs.Ythnaoedlnificaa
open Go.RowKit SL
attribute [local go_sem] cell_blk frozen_blk lt_blk cell_at frozen_row lt_row
set_option linter.unusedVariables false
set_option linter.unusedSimpArgs false

def flat2 (l : List (Int × Int)) : List Int := l.flatMap (fun p => [p.1, p.2])
theorem flat2_len (l : List (Int × Int)) : (flat2 l).length = l.length * 2 := flat_len (f := fun p : Int × Int => [p.1, p.2]) (fun _ => rfl) l
theorem cPr_flat (l : List (Int × Int)) : cPr l = ints (flat2 l) := by
  unfold cPr ints flat2
  rw [List.map_flatMap]
  rfl
/-- A row of pairs beside a bool. -/
def A2Ok (S : HP) (l : List (Int × Int)) (ok : Bool) (w : World) (e : Ending) (w' : World) : Prop := ∃ A c, e = two (.slice A l.length c) (.bool ok) ∧ Post w (Row 98 2 (.slice A l.length c) l.length (ints (flat2 l)) * S) w'
theorem A2Ok.of {S : HP} {l : List (Int × Int)} {ok : Bool} {w w' : World} {v : Value} (h : Post w (Row 98 2 v l.length (cPr l) * S) w') : A2Ok S l ok w (two v (.bool ok)) w' := by
  obtain ⟨A, c, rfl, _⟩ := Row.form h.sep
  rw [cPr_flat] at h
  exact ⟨A, c, rfl, h⟩
theorem A2Ok.nil {S : HP} {ok : Bool} {w w' : World} {v : Value} (h : Post w (Row 98 2 v 0 [] * S) w') : A2Ok S [] ok w (two v (.bool ok)) w' := A2Ok.of (l := []) h
/-- The pairs of the events of which something holds. -/
def pairN (p : Nat → Ev → Bool) (t : List Ev) : Nat → List (Int × Int)
  | 0 => []
  | i + 1 => pairN p t i ++ (match t[i]? with | some e => if p i e then [(e.f, e.v)] else [] | none => [])
theorem pairN_yes {p : Nat → Ev → Bool} {t : List Ev} {i : Nat} {e : Ev} (h : t[i]? = some e) (hp : p i e = true) : pairN p t (i + 1) = pairN p t i ++ [(e.f, e.v)] := by
  show pairN p t i ++ (match t[i]? with | some e => if p i e then [(e.f, e.v)] else [] | none => []) = _
  rw [h]; simp only; rw [hp]; rfl
theorem pairN_no {p : Nat → Ev → Bool} {t : List Ev} {i : Nat} {e : Ev} (h : t[i]? = some e) (hp : p i e = false) : pairN p t (i + 1) = pairN p t i := by
  show pairN p t i ++ (match t[i]? with | some e => if p i e then [(e.f, e.v)] else [] | none => []) = _
  rw [h]; simp only; rw [hp]; exact List.append_nil _
theorem pairN_len (p : Nat → Ev → Bool) (t : List Ev) : ∀ i, (pairN p t i).length ≤ i
  | 0 => Nat.le_refl _
  | i + 1 => by
    have := pairN_len p t i
    show (pairN p t i ++ (match t[i]? with | some e => if p i e then [(e.f, e.v)] else [] | none => [])).length ≤ _
    rw [List.length_append]
    split
    · split
      · show _ + 1 ≤ _; omega
      · show _ + 0 ≤ _; omega
    · show _ + 0 ≤ _; omega
/-- The same out of a list that goes along. -/
theorem pairN_fm {γ : Type} {p : Nat → Ev → Bool} {t : List Ev} {l : List γ} {g : γ → Option (Int × Int)} (hl : l.length = t.length) (hg : ∀ (i : Nat) (e : Ev) (x : γ), t[i]? = some e → l[i]? = some x → g x = if p i e then some (e.f, e.v) else none) :
    ∀ i, i ≤ t.length → pairN p t i = (l.take i).filterMap g
  | 0, _ => rfl
  | i + 1, hi => by
    obtain ⟨e, he⟩ := get_ex (xs := t) (k := i) (by omega)
    obtain ⟨x, hx⟩ := get_ex (xs := l) (k := i) (by omega)
    have ih := pairN_fm hl hg i (by omega)
    have h := hg i e x he hx
    cases hp : p i e with
    | true => rw [pairN_yes he hp, ih, fm_yes hx (by rw [h, hp]; rfl)]
    | false => rw [pairN_no he hp, ih, fm_no hx (by rw [h, hp]; rfl)]
theorem pairN_all {γ : Type} {p : Nat → Ev → Bool} {t : List Ev} {l : List γ} {g : γ → Option (Int × Int)} (hl : l.length = t.length) (hg : ∀ (i : Nat) (e : Ev) (x : γ), t[i]? = some e → l[i]? = some x → g x = if p i e then some (e.f, e.v) else none) :
    pairN p t t.length = l.filterMap g := by rw [pairN_fm hl hg _ (Nat.le_refl _), List.take_of_length_le (by omega)]
/-- What a closure is asked that picks events. -/
def PairP (S0 : HP) (R : Run) (g : Nat) (lb : Array Value) (p : Nat → Ev → Bool) : Prop :=
  ∀ (i : Nat) (ev : Ev), R.m.trace[i]? = some ev → ∀ (X : HP) (W : World), SepI W (X * S0) →
    Calls Try.prog g (#[.int .i64 (i : Int), .agg #[.int .i64 ev.k, .int .i64 ev.f, .int .i64 ev.v]] ++ lb) W fun e w' => e = .returned (.bool (p i ev)) ∧ Post W (X * S0) w'
set_option maxRecDepth 100000 in
set_option maxHeartbeats 8000000 in
theorem impl_pairs (S0 S : HP) (w : World) [H : SepI w S0] (gm : Nat) (A : Option Addr) (n c : Nat) (fuel : Int) (R : Run) (x : MVs) (M : MRd S0 S gm A n c fuel R x) (F : Facts R) (g : Nat) (lb : Array Value) (p : Nat → Ev → Bool) (eg : Enters g) (hp : PairP S0 R g lb p) :
    Calls Try.prog 69 #[.pointer (some ⟨gm, 0, none⟩), .func (.func g) #[] lb] w fun e w' => ∃ Av cv, e = .returned (.slice Av (pairN p R.m.trace R.m.trace.length).length cv) ∧ Post w (Row 98 2 (.slice Av (pairN p R.m.trace R.m.trace.length).length cv) (pairN p R.m.trace R.m.trace.length).length (cPr (pairN p R.m.trace R.m.trace.length)) * S0) w' := by
  have HPP := Hd.mk hp
  obtain ⟨m, hm⟩ : ∃ m, m = R.m.trace.length := ⟨_, rfl⟩
  have HM := Hd.mk hm
  have hts := F.ts
  rw [← hm] at hts ⊢
  obtain ⟨O, hO⟩ : ∃ O : Nat → List (Int × Int), O = pairN p R.m.trace := ⟨_, rfl⟩
  have HO0 : Hd (O 0 = []) := ⟨by rw [hO]; rfl⟩
  have HOY : Hd (∀ (i : Nat) (e : Ev), R.m.trace[i]? = some e → p i e = true → O (i + 1) = O i ++ [(e.f, e.v)]) := ⟨fun i e h hk => by rw [hO]; exact pairN_yes h hk⟩
  have HON : Hd (∀ (i : Nat) (e : Ev), R.m.trace[i]? = some e → p i e = false → O (i + 1) = O i) := ⟨fun i e h hk => by rw [hO]; exact pairN_no h hk⟩
  have HOL : Hd (∀ i, (O i).length ≤ i) := ⟨fun i => by rw [hO]; exact pairN_len _ _ _⟩
  rw [← hO]
  obtain ⟨A1, c1, A2, c2, A3, c3, A4, c4, A5, c5, bm, ps⟩ := x
  have i1 := M.blk
  have rT := M.tr
  dsimp only at i1 rT
  rw [← hm] at i1
  clear hp hO M hm F
  unfold Enters at eg
  obtain ⟨bf, hbf⟩ : ∃ bf, bf = w.heap.size := ⟨_, rfl⟩
  have hlit : SepI (w.alloc (.cells #[] 98 (0, 0))) (Row 98 2 (.slice (some ⟨w.heap.size, 0, none⟩) 0 0) 0 [] * S0) := Row.lit0 (SepI.i_alloc w (.cells #[] 98 (0, 0)) S0 _)
  have HBF := Hd.mk hbf
  clear hbf
  go_enter Try.func69, Try.ntmps69
  go_wp2
  rw [← HBF.out] at hlit ⊢
  go_loopw [5, 14] (fun v3 v4 wr => ∃ (i : Nat) (vv : Value), i ≤ m ∧ v4 = .int .i64 i ∧ v3 = vv ∧ ExtI w wr ∧ SepI wr (Row 98 2 vv (O i).length (cPr (O i)) * S0)) (fun _ v _ => m - (intOf v).toNat)
  case atStart => exact ⟨0, .slice (some ⟨bf, 0, none⟩) 0 0, Nat.zero_le _, rfl, rfl, inferInstance, SepI.cast hlit (by rw [HO0.out]; rfl)⟩
  case round =>
    obtain ⟨i, vv, hi, rfl, rfl, HX, HS3⟩ := hrel
    clear hlit
    by_cases hlt : i < m
    · obtain ⟨ev, hs1⟩ := get_ex (xs := R.m.trace) (k := i) (by rw [← HM.out]; exact hlt)
      obtain ⟨bp, op, rfl⟩ := rT.addr H (j := i) (by rw [cEvs_len, ← HM.out]; omega)
      have e1 := rT.cell (cEvs_get hs1).1
      have e2 := rT.cell (cEvs_get hs1).2.1
      have e3 := rT.cell (cEvs_get hs1).2.2
      obtain ⟨A0, c0, rfl, hc0, hc1⟩ := Row.form HS3
      have HCQ := Hd.mk (HPP.out i ev hs1)
      have hol : (O i).length ≤ 1000 := by have := HOL.out i; omega
      obtain ⟨q, hq⟩ : ∃ q, p i ev = q := ⟨_, rfl⟩
      have HQ := Hd.mk hq
      have hcall : ∀ W, SepI W (pts wr.heap.size (.cells #[.int .i64 ev.k, .int .i64 ev.f, .int .i64 ev.v] 94 (0, 0)) * (Row 98 2 (.slice A0 (O i).length c0) (O i).length (cPr (O i)) * S0)) → Calls Try.prog g (#[.int .i64 (i : Int), .agg #[.int .i64 ev.k, .int .i64 ev.f, .int .i64 ev.v]] ++ lb) W fun e w' => e = .returned (.bool q) ∧ Post W (pts wr.heap.size (.cells #[.int .i64 ev.k, .int .i64 ev.f, .int .i64 ev.v] 94 (0, 0)) * (Row 98 2 (.slice A0 (O i).length c0) (O i).length (cPr (O i)) * S0)) w' := fun W HW => (HCQ.out (pts wr.heap.size (.cells #[.int .i64 ev.k, .int .i64 ev.f, .int .i64 ev.v] 94 (0, 0)) * Row 98 2 (.slice A0 (O i).length c0) (O i).length (cPr (O i))) W (SepI.cast HW (star_assoc _ _ _).symm)).mono (fun e w' h => ⟨by rw [h.1, hq], ⟨SepI.cast h.2.sep (star_assoc _ _ _), h.2.ext⟩⟩)
      have HCC := Hd.mk hcall
      clear hcall hq
      cases q
      · have HNX := Hd.mk (HON.out i ev hs1 HQ.out)
        clear hs1
        go_wp2_with ((with_reducible refine (HCC.out _ inferInstance).mono ?_); rintro e w3 ⟨rfl, HP'⟩; have HS5 := HP'.sep; have HE5 := HP'.ext; clear HP')
        go_roundw
        case rel => exact ⟨i + 1, .slice A0 (O i).length c0, by omega, by go_num, rfl, inferInstance, SepI.cast (Ent.sep (S := _) (T := Row 98 2 (.slice A0 (O i).length c0) (O i).length (cPr (O i)) * S0) inferInstance HS5) (by rw [HNX.out])⟩
        case measure => (simp [intOf]; try omega)
      · have HNX := HOY.out i ev hs1 HQ.out
        have HOO : Hd (cPr (O i) ++ #[.int .i64 ev.f, .int .i64 ev.v].toList = cPr (O (i + 1))) := ⟨by rw [HNX, cPr_snoc]⟩
        have HLL : Hd ((O i).length + 1 = (O (i + 1)).length) := ⟨by rw [HNX]; simp⟩
        clear hs1 HNX
        go_wp2_with (first | ((with_reducible refine (HCC.out _ inferInstance).mono ?_); rintro e w3 ⟨rfl, HP'⟩; have HS5 := HP'.sep; have HE5 := HP'.ext; clear HP') | (at_builtin; go_must (refine ev_append (v := .slice A0 (O i).length c0) rfl _ _ 53 rfl rfl 16 _ Try.underlying53 info_pr rfl (by decide) (by decide) (w3.heap.size) 1 1 rfl rfl (by simp [Value.oneCell']) (by omega) ?_); intro v1 w4 HS4 HE4; replace HS4 := Row.as HS4 HLL.out HOO.out))
        go_roundw
        case rel => exact ⟨i + 1, v1, by omega, by go_num, rfl, inferInstance, Ent.sep (S := _) (T := Row 98 2 v1 (O (i + 1)).length (cPr (O (i + 1))) * S0) inferInstance HS4⟩
        case measure => (simp [intOf]; try omega)
    · have : i = m := by omega
      subst this
      obtain ⟨A0, c0, rfl, hc0, hc1⟩ := Row.form HS3
      go_wp2
      go_ret
      exact ⟨A0, c0, rfl, Post.mk' (Ent.sep (S := _) inferInstance inferInstance) inferInstance⟩
set_option maxRecDepth 100000 in
set_option maxHeartbeats 8000000 in
theorem impl_ResultsOfN (S : HP) (w : World) [H : SepI w S] (A : Option Addr) (c : Nat) (bs : List Bd) [r : Rd S A (cBds bs)] [B : Bodies S bs] (fn arg fuel : Int) (hv : askB (bs.map (·.l)) fn arg fuel = false) :
    Calls Try.prog 39 #[.agg #[.slice A bs.length c], .int .i64 fn, .int .i64 arg, .int .i64 fuel] w (A2Ok S [] false w) := by
  have hbn := B.n
  have HV := Hd.mk hv
  clear hv
  have hnot : ∀ (x : Bool) (w : World), (Op.unary .not (.bool x)).run Try.prog w = .ok (.bool (!x)) w := fun _ _ => rfl
  go_enter Try.func39, Try.ntmps39
  go_wp2_with fail
  refine (impl_ranN _ _ A c bs fn arg fuel HV.out).mono ?_
  rintro e w1 ⟨rfl, HP⟩
  have HS1 := HP.sep
  have HE1 := HP.ext
  clear HP
  go_wp2
  go_ret2
  exact A2Ok.nil (v := .slice none 0 0) (Post.mk' (Ent.sep (S := _) inferInstance (Row.nil0 HS1 98 2)) inferInstance)
set_option maxRecDepth 100000 in
set_option maxHeartbeats 8000000 in
theorem impl_ResultsOf1 (S : HP) (w : World) [H : SepI w S] (i : Int) (ev : Ev) :
    Calls Try.prog 70 #[.int .i64 i, .agg #[.int .i64 ev.k, .int .i64 ev.f, .int .i64 ev.v]] w fun e w' => e = .returned (.bool (ev.k == 7)) ∧ Post w S w' := by
  obtain ⟨k, f, v⟩ := ev
  obtain ⟨q, hq⟩ : ∃ q, (k == 7) = q := ⟨_, rfl⟩
  simp only
  rw [hq]
  go_enter Try.func70, Try.ntmps70
  go_wp2
  go_ret
  exact ⟨rfl, Post.mk' (Ent.sep (S := _) inferInstance inferInstance) inferInstance⟩
set_option maxRecDepth 100000 in
set_option maxHeartbeats 8000000 in
theorem impl_ResultsOfV (S : HP) (w : World) [H : SepI w S] (A : Option Addr) (c : Nat) (bs : List Bd) [r : Rd S A (cBds bs)] [B : Bodies S bs] (fn arg : Int) (fu : Nat) (L : List (List St)) (hbs : bs.map (·.l) = L) (hv : askB L fn arg fu = true) :
    Calls Try.prog 39 #[.agg #[.slice A bs.length c], .int .i64 fn, .int .i64 arg, .int .i64 fu] w (A2Ok S (resA (ranM L fn arg fu).m.trace) true w) := by
  have hbn := B.n
  have HV := Hd.mk hv
  have HB := Hd.mk hbs
  have HF := Hd.mk (factsB hv)
  clear hv hbs
  obtain ⟨R, hR⟩ : ∃ R, ranM L fn arg fu = R := ⟨_, rfl⟩
  have HR := Hd.mk hR
  rw [hR] at HF ⊢
  clear hR
  have HEN : Hd (Enters 70) := ⟨fun args w => by go_simp⟩
  have HPP : Hd (∀ S0, PairP S0 R 70 #[] (fun _ e => e.k == 7)) := ⟨fun S0 i ev _ X W HW => (impl_ResultsOf1 (X * S0) W i ev).mono fun e w h => h⟩
  obtain ⟨ans, hans⟩ : ∃ ans, resA R.m.trace = ans := ⟨_, rfl⟩
  rw [hans]
  have HANS : Hd (pairN (fun _ e => e.k == 7) R.m.trace R.m.trace.length = ans) := ⟨by
    rw [← hans]
    exact pairN_all (l := R.m.trace) rfl (fun i e x h1 h2 => by
      rw [h1] at h2
      injection h2 with h2
      subst h2
      unfold resF
      by_cases hk : e.k = 7
      · rw [if_pos hk, if_pos (by simpa using hk)]
      · rw [if_neg hk, if_neg (by simpa using hk)])⟩
  clear hans
  have hnot : ∀ (x : Bool) (w : World), (Op.unary .not (.bool x)).run Try.prog w = .ok (.bool (!x)) w := fun _ _ => rfl
  go_enter Try.func39, Try.ntmps39
  go_wp2_with fail
  refine (impl_ranX _ _ A c bs fn arg fu L HB.out HV.out).mono ?_
  rw [HR.out]
  rintro e w1 ⟨gm, x, S0, rfl, hps, M, HP⟩
  clear hps
  have HM1 := Hd.mk M
  clear M
  have HS1 := HP.sep
  have HE1 := HP.ext
  clear HP
  go_wp2_with fail
  refine (impl_pairs S0 _ _ gm A bs.length c fu R x HM1.out HF.out _ _ (fun _ e => e.k == 7) HEN.out (HPP.out S0)).mono ?_
  rw [HANS.out]
  rintro e w2 ⟨A2, c2, rfl, HP⟩
  have HS2 := HP.sep
  have HE2 := HP.ext
  clear HP
  go_wp2
  go_ret2
  exact A2Ok.of (v := .slice A2 ans.length c2) (Post.mk' (Ent.sep (S := _) inferInstance (HM1.out.out (Ent.sep (S := _) (T := Row 98 2 (.slice A2 ans.length c2) ans.length (cPr ans) * S0) inferInstance HS2))) inferInstance)
set_option maxRecDepth 100000 in
set_option maxHeartbeats 8000000 in
theorem spec_ResultsOfN (S : HP) (w : World) [H : SepI w S] (A : Option Addr) (c : Nat) (bs : List Bd) [r : Rd S A (cBds bs)] [B : Bodies S bs] (fn arg fuel : Int) (hv : askB (bs.map (·.l)) fn arg fuel = false) :
    Calls Try.prog 38 #[.agg #[.slice A bs.length c], .int .i64 fn, .int .i64 arg, .int .i64 fuel] w (A2Ok S [] false w) := by
  have hbn := B.n
  have HV := Hd.mk hv
  clear hv
  have hlit : SepI (w.alloc (.cells #[.slice A bs.length c] 33 (0, 0)) |>.alloc (.cells #[] 98 (0, 0))) (Row 98 2 (.slice (some ⟨w.heap.size + 1, 0, none⟩) 0 0) 0 [] * (pts w.heap.size (.cells #[.slice A bs.length c] 33 (0, 0)) * S)) := Row.lit0 (SepI.i_alloc _ (.cells #[] 98 (0, 0)) _ _)
  have hnot : ∀ (x : Bool) (w : World), (Op.unary .not (.bool x)).run Try.prog w = .ok (.bool (!x)) w := fun _ _ => rfl
  go_enter Try.func38, Try.ntmps38
  go_wp2_with fail
  refine (@spec_l2Ask _ _ hlit A c bs inferInstance inferInstance fn arg fuel _ HV.out).mono ?_
  rintro e w1 ⟨rfl, HP⟩
  have HS1 := HP.sep
  have HE1 := HP.ext
  clear HP
  go_wp2
  go_ret2
  exact A2Ok.nil (v := .slice (some ⟨w.heap.size + 1, 0, none⟩) 0 0) (Post.mk' (Ent.sep (S := _) inferInstance inferInstance) inferInstance)
set_option maxRecDepth 100000 in
set_option maxHeartbeats 8000000 in
theorem spec_ResultsOfV (S : HP) (w : World) [H : SepI w S] (A : Option Addr) (c : Nat) (bs : List Bd) [r : Rd S A (cBds bs)] [B : Bodies S bs] (hnn : NoneNil bs) (fn arg : Int) (fu : Nat) (L : List (List St)) (hbs : bs.map (·.l) = L) (hv : askB L fn arg fu = true) :
    Calls Try.prog 38 #[.agg #[.slice A bs.length c], .int .i64 fn, .int .i64 arg, .int .i64 fu] w (A2Ok S (resA (ranM L fn arg fu).m.trace) true w) := by
  have HNN := Hd.mk hnn
  have HV2 : Hd (askB (bs.map (·.l)) fn arg fu = true) := ⟨by rw [hbs]; exact hv⟩
  clear hnn
  have hbn := B.n
  have HV := Hd.mk hv
  have HB := Hd.mk hbs
  have HF := Hd.mk (factsB hv)
  clear hv hbs
  obtain ⟨R, hR⟩ : ∃ R, ranM L fn arg fu = R := ⟨_, rfl⟩
  have HR := Hd.mk hR
  rw [hR] at HF ⊢
  clear hR
  obtain ⟨m, hm⟩ : ∃ m, m = R.m.trace.length := ⟨_, rfl⟩
  have HM := Hd.mk hm
  have hts := HF.out.ts
  rw [← hm] at hts
  obtain ⟨O, hO⟩ : ∃ O : Nat → List (Int × Int), O = fun i => resA (R.m.trace.take i) := ⟨_, rfl⟩
  have HO0 : Hd (O 0 = []) := ⟨by rw [hO]; rfl⟩
  have HOM : Hd (O m = resA R.m.trace) := ⟨by rw [hO, hm]; simp only [List.take_length]⟩
  have HOY : Hd (∀ (i : Nat) (e : Ev), R.m.trace[i]? = some e → (e.k == 7) = true → O (i + 1) = O i ++ [(e.f, e.v)]) := ⟨fun i e h hk => by rw [hO]; exact fm_yes h (by unfold resF; rw [if_pos (by simpa using hk)])⟩
  have HON : Hd (∀ (i : Nat) (e : Ev), R.m.trace[i]? = some e → (e.k == 7) = false → O (i + 1) = O i) := ⟨fun i e h hk => by rw [hO]; exact fm_no h (by unfold resF; rw [if_neg (by simpa using hk)])⟩
  have HOL : Hd (∀ i, (O i).length ≤ 1000) := ⟨fun i => by rw [hO]; exact Nat.le_trans (fm_len _ R.m.trace i) HF.out.ts⟩
  rw [← HOM.out]
  clear hO
  obtain ⟨be, hbe⟩ : ∃ be, be = w.heap.size := ⟨_, rfl⟩
  have HBE := Hd.mk hbe
  clear hbe
  have hlit : SepI (w.alloc (.cells #[.slice A bs.length c] 33 (0, 0)) |>.alloc (.cells #[] 98 (0, 0))) (Row 98 2 (.slice (some ⟨w.heap.size + 1, 0, none⟩) 0 0) 0 [] * (pts w.heap.size (.cells #[.slice A bs.length c] 33 (0, 0)) * S)) := Row.lit0 (SepI.i_alloc _ (.cells #[] 98 (0, 0)) _ _)
  have hnot : ∀ (x : Bool) (w : World), (Op.unary .not (.bool x)).run Try.prog w = .ok (.bool (!x)) w := fun _ _ => rfl
  go_enter Try.func38, Try.ntmps38
  go_wp2_with fail
  refine (@spec_l2Ask _ _ hlit A c bs inferInstance inferInstance fn arg fu _ HV2.out).mono ?_
  rintro e w1 ⟨rfl, HP⟩
  have HS1 := HP.sep
  have HE1 := HP.ext
  clear HP
  go_wp2_with fail
  refine (spec_runX _ _ A c bs HNN.out fn arg fu L HB.out HV.out).mono ?_
  rw [HR.out]
  rintro e w2 ⟨A2, c2, rfl, HP⟩
  have HS2 := HP.sep
  have HE2 := HP.ext
  clear HP
  try simp only []
  rename_i hK
  refine hK _ _ ?_
  clear hK
  refine ev_val rfl _ rfl ?_
  rw [← hm] at HS2 ⊢
  clear hm hlit
  obtain ⟨F, hF⟩ : ∃ F, F = (Row 94 3 (.slice A2 m c2) m (cEvs R.m.trace) * (pts w.heap.size (.cells #[.slice A bs.length c] 33 (0, 0)) * S)) := ⟨_, rfl⟩
  have HS2a : SepI w2 (Row 98 2 (.slice (some ⟨w.heap.size + 1, 0, none⟩) 0 0) 0 [] * F) := SepI.cast HS2 (by rw [hF, star_left])
  have rT : Rd F A2 (cEvs R.m.trace) := by rw [hF]; infer_instance
  have hout : ∀ (X : HP) (w : World), SepI w (X * F) → SepI w (X * S) := fun X w h => by rw [hF] at h; exact Ent.sep (S := _) inferInstance h
  have HOUT := Hd.mk hout
  clear HS2 hF hout
  go_wp2
  go_loopw [10, 12] (fun v3 v4 wr => ∃ (i : Nat) (vv : Value), i ≤ m ∧ v4 = .int .i64 i ∧ v3 = vv ∧ ExtI w wr ∧ SepI wr (Row 98 2 vv (O i).length (cPr (O i)) * F)) (fun _ v _ => m - (intOf v).toNat)
  case atStart => exact ⟨0, .slice (some ⟨w.heap.size + 1, 0, none⟩) 0 0, Nat.zero_le _, rfl, rfl, inferInstance, SepI.cast HS2a (by rw [HO0.out]; rfl)⟩
  case round =>
    obtain ⟨i, vv, hi, rfl, rfl, HX, HS3⟩ := hrel
    by_cases hlt : i < m
    · obtain ⟨ev, hs1⟩ := get_ex (xs := R.m.trace) (k := i) (by rw [← HM.out]; exact hlt)
      obtain ⟨bp, op, rfl⟩ := rT.addr HS3.right (j := i) (by rw [cEvs_len, ← HM.out]; omega)
      have e1 := rT.cell (cEvs_get hs1).1
      have e2 := rT.cell (cEvs_get hs1).2.1
      have e3 := rT.cell (cEvs_get hs1).2.2
      obtain ⟨A0, c0, rfl, hc0, hc1⟩ := Row.form HS3
      obtain ⟨q, hq⟩ : ∃ q, (ev.k == 7) = q := ⟨_, rfl⟩
      have HQ := Hd.mk hq
      have hol := HOL.out i
      cases q
      · have HNX := Hd.mk (HON.out i ev hs1 HQ.out)
        clear hs1
        go_wp2
        go_roundw
        case rel => exact ⟨i + 1, .slice A0 (O i).length c0, by omega, by go_num, rfl, inferInstance, SepI.cast (Ent.sep (S := _) (T := Row 98 2 (.slice A0 (O i).length c0) (O i).length (cPr (O i)) * F) inferInstance HS3) (by rw [HNX.out])⟩
        case measure => (simp [intOf]; try omega)
      · have HNX := HOY.out i ev hs1 HQ.out
        have HOO : Hd (cPr (O i) ++ #[.int .i64 ev.f, .int .i64 ev.v].toList = cPr (O (i + 1))) := ⟨by rw [HNX, cPr_snoc]⟩
        have HLL : Hd ((O i).length + 1 = (O (i + 1)).length) := ⟨by rw [HNX]; simp⟩
        clear hs1 HNX
        go_wp2
        refine wp_region_W 13 15 (by kernel_rfl) (by kernel_rfl) (fun w' => w'.cell? ⟨bp, op + i * 3 + 1, none⟩ = some (.int .i64 ev.f) ∧ w'.cell? ⟨bp, op + i * 3 + 2, none⟩ = some (.int .i64 ev.v)) ⟨cell_at _ _ _ _ _, cell_at _ _ _ _ _⟩ (fun hHeld => ?_)
        refine tkp 0 hHeld ?_
        refine tkp 1 hHeld ?_
        refine tkp 2 hHeld ?_
        refine tkp 3 hHeld ?_
        refine tkp 4 hHeld ?_
        refine tkl 5 hHeld ?_
        refine tkp 6 hHeld ?_
        refine tkp 7 hHeld ?_
        refine tkp 8 hHeld ?_
        refine tkp 9 hHeld ?_
        refine tkl 10 hHeld ?_
        refine tkp 11 hHeld ?_
        refine wpAnyW_one false (i := 12) (by kernel_rfl) rfl (by kernel_rfl) (by rfl) (fun KK hKK => ?_)
        refine st_list rfl ?_
        go_wp2
        refine ⟨rfl, ?_⟩
        refine hKK.out _ _ (.inr ⟨cell_at _ _ _ _ _, cell_at _ _ _ _ _⟩) (fun hHeld => ?_)
        clear hKK KK
        try simp only [Act.put, List.setIfInBounds_toArray, List.set_cons_zero, List.set_cons_succ]
        refine wpAnyW_done (by kernel_rfl) ?_
        refine ev_append (v := .slice A0 (O i).length c0) rfl _ _ 53 rfl ?_ 16 _ Try.underlying53 info_pr rfl (by decide) (by decide) (wr.heap.size) 1 1 ?_ rfl (by simp [Value.oneCell']) (by omega) ?_
        rfl
        rfl
        intro v1 w4 HS4 HE4
        replace HS4 := Row.as HS4 HLL.out HOO.out
        go_wp2
        go_roundw
        case rel => exact ⟨i + 1, v1, by omega, by go_num, rfl, inferInstance, Ent.sep (S := _) (T := Row 98 2 v1 (O (i + 1)).length (cPr (O (i + 1))) * F) inferInstance HS4⟩
        case measure => (simp [intOf]; try omega)
    · have : i = m := by omega
      subst this
      obtain ⟨A0, c0, rfl, hc0, hc1⟩ := Row.form HS3
      go_wp2
      go_ret2
      exact A2Ok.of (v := .slice A0 (O i).length c0) (Post.mk' (HOUT.out _ _ (Ent.sep (S := _) inferInstance inferInstance)) inferInstance)
def ok_ResultsOf (L : List (List St)) (fn arg fuel : Int) : Bool := askB L fn arg fuel
def ans_ResultsOf (L : List (List St)) (fn arg fuel : Int) : List (Int × Int) := if askB L fn arg fuel then resA (ranM L fn arg fuel.toNat).m.trace else []
theorem ans_ResultsOf_yes {L : List (List St)} {fn arg : Int} {fu : Nat} (h : askB L fn arg fu = true) : ans_ResultsOf L fn arg fu = resA (ranM L fn arg fu).m.trace := by unfold ans_ResultsOf; rw [if_pos h]; rfl
theorem ans_ResultsOf_no {L : List (List St)} {fn arg fuel : Int} (h : askB L fn arg fuel = false) : ans_ResultsOf L fn arg fuel = [] := by unfold ans_ResultsOf; rw [h]; rfl
theorem impl_ResultsOfA (S : HP) (w : World) [H : SepI w S] (A : Option Addr) (c : Nat) (bs : List Bd) [r : Rd S A (cBds bs)] [B : Bodies S bs] (fn arg fuel : Int) :
    Calls Try.prog 39 #[.agg #[.slice A bs.length c], .int .i64 fn, .int .i64 arg, .int .i64 fuel] w (A2Ok S (ans_ResultsOf (bs.map (·.l)) fn arg fuel) (ok_ResultsOf (bs.map (·.l)) fn arg fuel) w) := by
  obtain ⟨v, hv⟩ : ∃ v, askB (bs.map (·.l)) fn arg fuel = v := ⟨_, rfl⟩
  have e : ok_ResultsOf (bs.map (·.l)) fn arg fuel = v := hv
  rw [e]
  cases v
  · rw [ans_ResultsOf_no hv]; exact impl_ResultsOfN S w A c bs fn arg fuel hv
  · obtain ⟨fu, rfl⟩ : ∃ fu : Nat, fuel = fu := ⟨fuel.toNat, by have := (askB_of hv).2.2.2.1; omega⟩
    rw [ans_ResultsOf_yes hv]; exact impl_ResultsOfV S w A c bs fn arg fu _ rfl hv
theorem spec_ResultsOfA (S : HP) (w : World) [H : SepI w S] (A : Option Addr) (c : Nat) (bs : List Bd) [r : Rd S A (cBds bs)] [B : Bodies S bs] (hnn : NoneNil bs) (fn arg fuel : Int) :
    Calls Try.prog 38 #[.agg #[.slice A bs.length c], .int .i64 fn, .int .i64 arg, .int .i64 fuel] w (A2Ok S (ans_ResultsOf (bs.map (·.l)) fn arg fuel) (ok_ResultsOf (bs.map (·.l)) fn arg fuel) w) := by
  obtain ⟨v, hv⟩ : ∃ v, askB (bs.map (·.l)) fn arg fuel = v := ⟨_, rfl⟩
  have e : ok_ResultsOf (bs.map (·.l)) fn arg fuel = v := hv
  rw [e]
  cases v
  · rw [ans_ResultsOf_no hv]; exact spec_ResultsOfN S w A c bs fn arg fuel hv
  · obtain ⟨fu, rfl⟩ : ∃ fu : Nat, fuel = fu := ⟨fuel.toNat, by have := (askB_of hv).2.2.2.1; omega⟩
    rw [ans_ResultsOf_yes hv]; exact spec_ResultsOfV S w A c bs hnn fn arg fu _ rfl hv
theorem small_ResultsOf (L : List (List St)) (fn arg fuel : Int) : (ans_ResultsOf L fn arg fuel).length ≤ 1048576 := by
  obtain ⟨v, hv⟩ : ∃ v, askB L fn arg fuel = v := ⟨_, rfl⟩
  cases v
  · rw [ans_ResultsOf_no hv]; simp
  · obtain ⟨fu, rfl⟩ : ∃ fu : Nat, fuel = fu := ⟨fuel.toNat, by have := (askB_of hv).2.2.2.1; omega⟩
    rw [ans_ResultsOf_yes hv]
    have FF := factsB hv
    have hts := FF.ts
    have := fm_len' resF (ranM L fn arg fu).m.trace; unfold resA; omega
end Go.Proofs.Ythnaoedlnificaa
