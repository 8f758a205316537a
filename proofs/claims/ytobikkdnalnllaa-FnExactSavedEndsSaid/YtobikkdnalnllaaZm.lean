/- A map from ints to bools in memory: looked up and put. Conditions: none; plain lemmas. -/
import Derived.Test.YtobikkdnalnllaaQc
import Derived.Maps.Own
import Derived.Maps.OwnOps
import Derived.Maps.Views
namespace Go.Proofs.Ytobikkdnalnllaa.SL
open Go.RowKit
set_option linter.unusedVariables false
theorem int_law : Maps.Keyed Try.prog 3 := Maps.int_keyed Try.underlying3
/-- A map from ints to bools, of at most n entries: the keys of K hold true. -/
def IMapH (b n : Nat) (K : List Int) : HP := fun h => ∃ es clock, h b = some (.map es clock) ∧ WideElems.Fit (H := Unit) Try.prog 3 (plainElem Try.prog 4) es clock ∧ es.size ≤ n ∧
  ∀ i : Int, DataW.atKey (.map ((es.toList.map (WideElems.rg Try.prog 3 (plainElem Try.prog 4))).foldr DataW.insert []) : DataW Unit) (.int .i64 i) (.lit (.bool false)) = .lit (.bool (decide (i ∈ K)))
theorem IMapH.own {w : World} {b n : Nat} {K : List Int} {F : HP} (H : SepI w (IMapH b n K * F)) : ∃ D : DataW Unit, w.ownsMap Try.prog 3 (plainElem Try.prog 4) b n D ∧ Maps.IsMap D ∧ ∀ i : Int, D.atKey (.int .i64 i) (.lit (.bool false)) = .lit (.bool (decide (i ∈ K))) := by
  obtain ⟨p, ⟨h1, h2, ⟨es, clock, hb, hf, hs, hk⟩, _, d, e⟩, k⟩ := H.out
  exact ⟨_, ⟨es, clock, k b _ (by rw [e b, hb]; rfl), hf, hs, rfl⟩, ⟨_, rfl⟩, hk⟩
theorem IMapH.put {w w' : World} {b n m : Nat} {K K' : List Int} {D : DataW Unit} {F : HP} (H : SepI w (IMapH b n K * F)) (ho : w'.ownsMap Try.prog 3 (plainElem Try.prog 4) b m D) (hK : ∀ i : Int, D.atKey (.int .i64 i) (.lit (.bool false)) = .lit (.bool (decide (i ∈ K')))) (hg : w.grownBy w' (some b)) : SepI w' (IMapH b m K' * F) :=
  H.turn fun h ⟨es, clock, hb, _, _, _⟩ _ => by
    obtain ⟨es', clock', hb', hf', hs', rfl⟩ := ho
    refine ⟨fun k => if k = b then some (.map es' clock') else none, ⟨es', clock', by simp, hf', hs', hK⟩, fun k p q => ?_, fun k q => ?_, fun k lt hn => hg.block k lt (by rintro h; injection h with h; rw [h, hb] at hn; cases hn)⟩
    · by_cases e : k = b
      · subst e; simp at q; subst q; exact hb'
      · simp [e] at q
    · by_cases e : k = b
      · subst e; left; rw [hb]; simp
      · simp [e] at q
theorem IMapH.made {w : World} {b : Nat} {F : HP} (H : SepI w (pts b (.map #[] 0) * F)) : SepI w (IMapH b 0 [] * F) :=
  H.mono fun h ⟨h1, h2, a, b', d, e⟩ => ⟨h1, h2, ⟨#[], 0, a, ⟨by simp, MapKept.stamped_empty 0, by simp⟩, Nat.le_refl _, fun i => by simp [DataW.atKey]⟩, b', d, e⟩
section
variable {ops : Array Oper} {rest : List Oper} {o : Oper} {a : Act} {Q : Exit → Act → World → Prop}
set_option maxRecDepth 100000 in
theorem IMapH.look {w : World} {b n : Nat} {K : List Int} {F : HP} (H : SepI w (IMapH b n K * F)) (i : Int) (hi : -1048576 ≤ i ∧ i ≤ 1048576) :
    (Instr.lookup 86 (.map (some b)) (.int .i64 i) false).run Try.prog w = .ok (.bool (decide (i ∈ K))) w := by
  obtain ⟨D, ho, hm, hk⟩ := IMapH.own H
  obtain ⟨v, ps, hrun, hv⟩ := ho.lookup int_law Try.underlying86 (z := .bool false) (zd := .lit (.bool false)) (zp := []) (by rfl) (plainElem_bool Try.underlying4 false) (Maps.keyOf_int_mk Try.underlying3 (i64_wf hi.1 hi.2))
  rw [hk i] at hv
  have e : v = .bool (decide (i ∈ K)) := by
    unfold plainElem at hv
    rw [Try.underlying4] at hv
    cases v <;> simp at hv
    rw [hv.1]
  rw [hrun, e]
/-- m[i], an int; the map stays. -/
theorem ev_look {w : World} {S F : HP} {b n : Nat} {K : List Int} [H : SepI w S] (hgd : o.guard = none) (m x : Operand) (ho : o.op = Op.lookup 86 m x false) (hm : a.eval m = .map (some b)) [p : Pick S (IMapH b n K) F]
    (i : Int) (hx : a.eval x = .int .i64 i) (hi : -1048576 ≤ i ∧ i ≤ 1048576) (v : Bool) (hv : decide (i ∈ K) = v)
    (k : wpList Try.prog ops Q rest (a.put o.dst (.bool v)) w) : wpList Try.prog ops Q (o :: rest) a w := by
  subst hv
  have hrun := IMapH.look (H.pick p) i hi
  refine wpList_plain hgd fun K' hK' => ?_
  unfold Oper.wp
  simp [execOp, ho, hm, hx, hrun, Result.andThen]
  exact hK' _ _ k
/-- m[i] = true. -/
theorem ev_iset {w : World} {S F : HP} {b n : Nat} {K : List Int} [H : SepI w S] (hgd : o.guard = none) (m x v : Operand) (ho : o.op = Op.mapUpdate 86 m x v) (hm : a.eval m = .map (some b)) [p : Pick S (IMapH b n K) F] (hn : n ≤ 1048576)
    (i : Int) (hx : a.eval x = .int .i64 i) (hv : a.eval v = .bool true) (hi : -1048576 ≤ i ∧ i ≤ 1048576)
    (k : ∀ w1, SepI w1 (IMapH b (n + 1) (i :: K) * F) → (∀ u [ExtI u w], ExtI u w1) → wpList Try.prog ops Q rest (a.put o.dst undef) w1) : wpList Try.prog ops Q (o :: rest) a w := by
  have HP := H.pick p
  obtain ⟨D, hD, hmap, hk⟩ := IMapH.own HP
  refine wpList_mapUpdate_own w hgd m x v 86 ho 3 4 int_law Try.underlying86 _ b n D hm hD (by unfold maxLen; omega) _ _ _ hx hv
    (Maps.keyOf_int_mk Try.underlying3 (i64_wf hi.1 hi.2)) _ [] (plainElem_bool Try.underlying4 true) ?_
  intro w1 ho1 hg1
  refine k w1 (IMapH.put HP ho1 (fun j => ?_) hg1) (fun u i => i.trans ⟨hg1.os, hg1.tape, hg1.output, hg1.size⟩)
  by_cases e : j = i
  · subst e
    rw [Maps.atKey_put_same hmap (show WideAt.IsKeyLit (.int .i64 j) from trivial)]
    simp
  · rw [Maps.atKey_put_other (by intro h; injection h with _ h; exact e h), hk j]
    simp [e]
end
end Go.Proofs.Ytobikkdnalnllaa.SL
