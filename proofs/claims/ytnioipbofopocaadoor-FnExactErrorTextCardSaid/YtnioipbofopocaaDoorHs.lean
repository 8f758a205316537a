/- Errors that have some numbers: the program's has, the reference's l6One. Conditions: lengths within bounds. -/
import Derived.Test.YtnioipbofopocaaDoorAf
namespace Go.Proofs.YtnioipbofopocaaDoor
open Go.RowKit SL
attribute [local go_sem] cell_blk frozen_blk lt_blk cell_at frozen_row lt_row
set_option linter.unusedVariables false
set_option linter.unusedSimpArgs false

/-- A block that is read as a row. -/
theorem Rd.of_blk {S : HP} {g : Nat} {cs : Array Value} {t : TypeId} {fz : Nat × Nat} (h : HasBlk S g (.cells cs t fz)) : Rd S (some ⟨g, 0, none⟩) cs.toList := ⟨fun w H => .inr ⟨g, 0, rfl, h.lt H, fun j v hj => by
  have := cell_of_row w g j cs t fz (h.block H)
  rw [Nat.zero_add, this, ← hj, Array.getElem?_toList]⟩⟩

def hasB (es : List EC) (l : List Int) : Bool := errsB es && l.all (fun k => inB k 0 ((es.length : Int) - 1))
theorem enters_has : Enters 83 := fun _ _ => by go_simp
theorem impl_has1 (S : HP) (w : World) [H : SepI w S] (be : Nat) (x : Int) (A : Option Addr) (m c : Nat) (v : Bool) (hm : m ≤ 1048576)
    [HasBlk S be (.cells #[.slice A m c] 42 (0, 0))] (hv : inB x 0 ((m : Int) - 1) = v) : Calls Tryd.prog 83 #[intV x, .pointer (some ⟨be, 0, none⟩)] w
      fun e w' => e = .returned (.bool (!v)) ∧ Post w S w' := by
  have HV := Hd.mk hv
  clear hv
  unfold intV
  go_enter Tryd.func83, Tryd.ntmps83
  go_wp2_with (go_at_call 40; refine (impl_in _ _ _ _ _ HV.out).mono ?_; rintro e w' ⟨rfl, rfl⟩)
  go_ret
  exact ⟨rfl, Post.mk' inferInstance inferInstance⟩

set_option maxRecDepth 100000 in
set_option maxHeartbeats 1000000 in
theorem impl_has (S : HP) (w : World) [H : SepI w S] (A : Option Addr) (c : Nat) (es : List EN) [r : Rd S A (cENs es)] [B : Nodes S es] (L : Option Addr) (lc : Nat) (l : List Int) [rl : Rd S L (ints l)] (hl : l.length ≤ 1048576) (v : Bool) (hv : hasB (es.map ecOf) l = v) :
    Calls Tryd.prog 56 #[.agg #[.slice A es.length c], .slice L l.length lc] w fun e w' => e = .returned (.bool v) ∧ Post w S w' := by
  have hmf : ∀ (fn : Fn) (first cap : Array Value) (w : World), (Instr.makeFunc fn first cap).run Tryd.prog w = .ok (.func fn first cap) w := fun _ _ _ _ => rfl
  have hn := B.n
  unfold hasB at hv
  rw [List.length_map] at hv
  obtain ⟨p, hp⟩ : ∃ p, errsB (es.map ecOf) = p := ⟨_, rfl⟩
  rw [hp] at hv
  have HP := Hd.mk hp
  clear hp
  have HPA : Hd (l.any (fun y => !inB y 0 ((es.length : Int) - 1)) = !l.all (fun y => inB y 0 ((es.length : Int) - 1))) := ⟨any_not l (fun y => inB y 0 ((es.length : Int) - 1))⟩
  have HV := Hd.mk hv
  have HPR : Hd (∀ W : World, Pred (pts w.heap.size (.cells #[.slice A es.length c] 42 (0, 0)) * S) 83 #[.pointer (some ⟨w.heap.size, 0, none⟩)] (intV 0) (!inB 0 0 ((es.length : Int) - 1)) → True) := ⟨fun _ _ => trivial⟩
  have HPR : Hd (∀ y ∈ l, Pred (pts w.heap.size (.cells #[.slice A es.length c] 42 (0, 0)) * S) 83 #[.pointer (some ⟨w.heap.size, 0, none⟩)] (intV y) (!inB y 0 ((es.length : Int) - 1))) :=
    ⟨fun y _ W HW => impl_has1 _ W w.heap.size y A es.length c _ hn rfl⟩
  clear hv
  cases p
  · go_enter Tryd.func56, Tryd.ntmps56
    go_wp2_with fail
    refine (impl_AreErrors _ _ _ _ es).mono ?_
    rintro e w1 ⟨rfl, HQ⟩
    rw [HP.out]
    have HS1 := HQ.sep
    have HE1 := HQ.ext
    clear HQ
    go_wp2
    go_ret
    exact ⟨ret_b (by rw [← HV.out]; rfl), Post.mk' (Ent.sep (S := _) inferInstance inferInstance) inferInstance⟩
  · go_enter Tryd.func56, Tryd.ntmps56
    go_wp2_with fail
    refine (impl_AreErrors _ _ _ _ es).mono ?_
    rintro e w1 ⟨rfl, HQ⟩
    rw [HP.out]
    have HS1 := HQ.sep
    have HE1 := HQ.ext
    clear HQ
    go_wp2_with fail
    refine (containsInt _ _ _ _ l hl _ _ _ _ enters_has HPR.out HPA.out).mono ?_
    rintro e w2 ⟨rfl, HQ⟩
    have HS2 := HQ.sep
    have HE2 := HQ.ext
    clear HQ
    go_wp2
    go_ret
    exact ⟨ret_b (by rw [← HV.out]; simp), Post.mk' (Ent.sep (S := _) inferInstance inferInstance) inferInstance⟩

theorem spec_l6One (S : HP) (w : World) [H : SepI w S] (A : Option Addr) (c : Nat) (es : List EN) [r : Rd S A (cENs es)] [B : Nodes S es] (n : Int) (v : Bool) (hv : hasB (es.map ecOf) [n] = v) :
    Calls Tryd.prog 53 #[.agg #[.slice A es.length c], .int .i64 n] w fun e w' => e = .returned (.bool v) ∧ Post w S w' := by
  have hn := B.n
  unfold hasB at hv
  rw [List.length_map] at hv
  obtain ⟨p, hp⟩ : ∃ p, errsB (es.map ecOf) = p := ⟨_, rfl⟩
  obtain ⟨q, hq⟩ : ∃ q, inB n 0 ((es.length : Int) - 1) = q := ⟨_, rfl⟩
  have hv' : (p && q) = v := by rw [← hv, hp]; simp [hq]
  subst hv'
  have HP := Hd.mk hp
  have HQ := Hd.mk hq
  clear hp hq hv
  cases p
  all_goals
    go_enter Tryd.func53, Tryd.ntmps53
    go_wp2_with (first | (go_at_call 79; refine (spec_l6Errors _ _ _ _ es).mono ?_; rintro e w' ⟨rfl, HP'⟩; rw [HP.out]; have HS2 := HP'.sep; have HE2 := HP'.ext; clear HP') | (go_at_call 38; refine (spec_in _ _ _ _ _ HQ.out).mono ?_; rintro e w' ⟨rfl, rfl⟩))
    go_ret
    exact ⟨ret_b (by simp), Post.mk' (Ent.sep (S := _) inferInstance inferInstance) inferInstance⟩
end Go.Proofs.YtnioipbofopocaaDoor
