/- A small separation logic over the model's worlds, so that what a call owns is found by instance search. Conditions: none; plain lemmas. -/
import Derived.Below
import Derived.Deep.Draws
import Derived.Deep.AppendLies
import Derived.Maps.AppendAt
import Derived.OwnWalk
import Derived.Laws.BytesArg
import Derived.Laws.MakeOwn
import Derived.Laws.OwnMore
import Derived.Deep.OwnRows
import Derived.Tactics
import Derived.Lib.ConvBytes
import Derived.Laws.Slices
import Derived.WalkKit
import Derived.KernelRfl
import Derived.RowKit3
import Derived.Deep.LoopGhost
import Derived.Deep.QuietTactic
import Derived.BigQuiet
import Derived.WideLaws
import Derived.Deep.DeepCutAuto
import Derived.Deep.CutBlock
import Derived.Deep.RegionHeld3
import Derived.Laws.Rows
import Derived.Lib.AppendStr
import Derived.ArgAppend
import Derived.Laws.IdiomCopy
import Derived.OrdersHeld
import Derived.Laws.BitsLemmas
import Derived.RowKit
namespace Go.Proofs.YtnioipbofopocaaDoor.SL
open Go.RowKit
set_option linter.unusedVariables false

/-- A fact that the walk doesn't look into. -/
structure Hd (p : Prop) : Prop where
  out : p

abbrev PH := Nat → Option Obj
def HP := PH → Prop
def HP.star (A B : HP) : HP := fun h => ∃ h1 h2 : PH, A h1 ∧ B h2 ∧ (∀ g, h1 g = none ∨ h2 g = none) ∧ ∀ g, h g = (h1 g).or (h2 g)
instance : Mul HP := ⟨HP.star⟩
theorem star_def (A B : HP) (h : PH) : (A * B) h ↔ ∃ h1 h2 : PH, A h1 ∧ B h2 ∧ (∀ g, h1 g = none ∨ h2 g = none) ∧ ∀ g, h g = (h1 g).or (h2 g) := Iff.rfl
theorem star_comm_imp (A B : HP) (h : PH) (H : (A * B) h) : (B * A) h := by
  obtain ⟨h1, h2, a, b, d, e⟩ := H
  refine ⟨h2, h1, b, a, fun g => (d g).symm, fun g => ?_⟩
  rw [e g]
  rcases d g with d | d <;> rw [d]
  · cases h2 g <;> rfl
  · cases h1 g <;> rfl
theorem star_assoc_imp (A B C : HP) (h : PH) (H : (A * B * C) h) : (A * (B * C)) h := by
  obtain ⟨h12, h3, ⟨h1, h2, a, b, d, e⟩, c, d', e'⟩ := H
  refine ⟨h1, fun g => (h2 g).or (h3 g), a, ⟨h2, h3, b, c, ?_, fun g => rfl⟩, ?_, ?_⟩
  · intro g
    rcases d' g with q | q
    · rw [e g] at q
      left
      cases h2' : h2 g with
      | none => rfl
      | some x => rw [h2'] at q; cases h1 g <;> simp at q
    · exact .inr q
  · intro g
    rcases d g with q | q
    · exact .inl q
    · rcases d' g with r | r
      · rw [e g] at r
        left
        cases h1' : h1 g with
        | none => rfl
        | some x => rw [h1'] at r; simp at r
      · right; simp [q, r]
  · intro g
    rw [e' g, e g]
    show ((h1 g).or (h2 g)).or (h3 g) = (h1 g).or ((h2 g).or (h3 g))
    cases h1 g <;> cases h2 g <;> cases h3 g <;> rfl
theorem star_comm (A B : HP) : A * B = B * A := funext fun h => propext ⟨star_comm_imp A B h, star_comm_imp B A h⟩
theorem star_assoc (A B C : HP) : A * B * C = A * (B * C) := funext fun h => propext ⟨star_assoc_imp A B C h, fun H => by
  have h1 : (B * C * A) h := star_comm_imp _ _ _ H
  have h2 := star_assoc_imp _ _ _ _ h1
  have h3 : (C * A * B) h := star_comm_imp _ _ _ h2
  have h4 := star_assoc_imp _ _ _ _ h3
  exact star_comm_imp _ _ _ h4⟩
theorem star_left (A B C : HP) : A * (B * C) = B * (A * C) := by rw [← star_assoc, star_comm A B, star_assoc]

instance : Std.Associative (α := HP) (· * ·) := ⟨star_assoc⟩
instance : Std.Commutative (α := HP) (· * ·) := ⟨star_comm⟩
/-- Nothing is owned. -/
def emp : HP := fun _ => True
/-- Block g is o. -/
def pts (g : Nat) (o : Obj) : HP := fun h => h g = some o
/-- All of an elder world. -/
def old (w0 : World) : HP := fun h => ∀ g, g < w0.heap.size → h g = w0.heap[g]?

class SepI (w : World) (S : outParam HP) : Prop where
  out : ∃ h : PH, S h ∧ ∀ g o, h g = some o → w.heap[g]? = some o

theorem SepI.mono {w : World} {S T : HP} (H : SepI w S) (i : ∀ h, S h → T h) : SepI w T := ⟨by
  obtain ⟨h, a, b⟩ := H.out
  exact ⟨h, i h a, b⟩⟩
theorem SepI.cast {w : World} {S T : HP} (H : SepI w S) (e : S = T) : SepI w T := e ▸ H
theorem SepI.right {w : World} {A F : HP} (H : SepI w (A * F)) : SepI w F := ⟨by
  obtain ⟨h, ⟨h1, h2, a, b, d, e⟩, k⟩ := H.out
  exact ⟨h2, b, fun g o q => k g o (by rw [e g, q]; rcases d g with d | d <;> simp_all)⟩⟩
theorem SepI.left {w : World} {A F : HP} (H : SepI w (A * F)) : SepI w A := ⟨by
  obtain ⟨h, ⟨h1, h2, a, b, d, e⟩, k⟩ := H.out
  exact ⟨h1, a, fun g o q => k g o (by rw [e g, q]; rfl)⟩⟩
theorem SepI.emp {w : World} {S : HP} (H : SepI w S) : SepI w (emp * S) := ⟨by
  obtain ⟨h, a, b⟩ := H.out
  exact ⟨h, ⟨fun _ => none, h, trivial, a, fun _ => .inl rfl, fun _ => rfl⟩, b⟩⟩
theorem SepI.all (w : World) : SepI w (old w) := ⟨⟨fun g => w.heap[g]?, fun g _ => rfl, fun g o h => h⟩⟩

/-- One part has turned; all else stays. D: which blocks the part is. -/
theorem SepI.turn {w w' : World} {A A' F : HP} (H : SepI w (A * F))
    (t : ∀ h : PH, A h → (∀ g o, h g = some o → w.heap[g]? = some o) → ∃ h' : PH, A' h' ∧ (∀ g o, h' g = some o → w'.heap[g]? = some o) ∧ (∀ g, h' g ≠ none → h g ≠ none ∨ w.heap.size ≤ g) ∧
      ∀ g, g < w.heap.size → h g = none → w'.heap[g]? = w.heap[g]?) : SepI w' (A' * F) := ⟨by
  obtain ⟨h, ⟨h1, h2, a, b, d, e⟩, k⟩ := H.out
  obtain ⟨h', a', k', n', s'⟩ := t h1 a (fun g o q => k g o (by rw [e g, q]; rfl))
  have in2 : ∀ g o, h2 g = some o → w.heap[g]? = some o := fun g o q => k g o (by rw [e g, q]; rcases d g with d | d <;> simp_all)
  have dis : ∀ g, h' g = none ∨ h2 g = none := fun g => by
    cases q : h' g with
    | none => exact .inl rfl
    | some x =>
      right
      rcases n' g (by rw [q]; simp) with n | n
      · rcases d g with d | d
        · exact absurd d n
        · exact d
      · cases r : h2 g with
        | none => rfl
        | some y =>
          have := (Array.getElem?_eq_some_iff.1 (in2 g y r)).1
          omega
  refine ⟨fun g => (h' g).or (h2 g), ⟨h', h2, a', b, dis, fun _ => rfl⟩, fun g o q => ?_⟩
  replace q : (h' g).or (h2 g) = some o := q
  cases r : h' g with
  | some x => rw [r] at q; exact k' g o (by rw [r]; exact q)
  | none =>
    rw [r] at q
    have q2 : h2 g = some o := q
    have lt := (Array.getElem?_eq_some_iff.1 (in2 g o q2)).1
    rw [s' g lt (by rcases d g with d | d; exact d; rw [d] at q2; cases q2)]
    exact in2 g o q2⟩
/-- Nothing that was there has turned. -/
theorem SepI.stays {w w' : World} {S : HP} (H : SepI w S) (hk : ∀ g, g < w.heap.size → w'.heap[g]? = w.heap[g]?) : SepI w' S := ⟨by
  obtain ⟨h, a, b⟩ := H.out
  exact ⟨h, a, fun g o q => by rw [hk g (Array.getElem?_eq_some_iff.1 (b g o q)).1]; exact b g o q⟩⟩
theorem SepI.below {w w' : World} {S : HP} (H : SepI w S) (hb : Below w.heap.size w w') : SepI w' S := H.stays hb.block
theorem SepI.block {w : World} {g : Nat} {o : Obj} {F : HP} (H : SepI w (pts g o * F)) : w.heap[g]? = some o := by
  obtain ⟨h, ⟨h1, h2, a, b, d, e⟩, k⟩ := H.out
  exact k g o (by rw [e g]; rw [show h1 g = some o from a]; rfl)
theorem SepI.new {w w' : World} {S : HP} (H : SepI w S) {g : Nat} {o : Obj} (hg : w.heap.size ≤ g) (ho : w'.heap[g]? = some o) (hk : ∀ g, g < w.heap.size → w'.heap[g]? = w.heap[g]?) : SepI w' (pts g o * S) :=
  (H.emp).turn fun h _ _ => ⟨fun k => if k = g then some o else none, by simp [pts], fun k p q => by
    by_cases e : k = g
    · subst e; simp at q; subst q; exact ho
    · simp [e] at q, fun k q => by
    by_cases e : k = g
    · subst e; exact .inr hg
    · simp [e] at q, fun k lt _ => hk k lt⟩
theorem SepI.write {w w' : World} {g : Nat} {o o' : Obj} {F : HP} (H : SepI w (pts g o * F)) (ho : w'.heap[g]? = some o') (hk : ∀ k, k < w.heap.size → k ≠ g → w'.heap[k]? = w.heap[k]?) : SepI w' (pts g o' * F) :=
  H.turn fun h a _ => ⟨fun k => if k = g then some o' else none, by simp [pts], fun k p q => by
    by_cases e : k = g
    · subst e; simp at q; subst q; exact ho
    · simp [e] at q, fun k q => by
    by_cases e : k = g
    · subst e; left; rw [show h k = some o from a]; simp
    · simp [e] at q, fun k lt hn => hk k lt (by rintro rfl; rw [show h k = some o from a] at hn; cases hn)⟩

/-- S is A beside F. -/
class Pick (S A : HP) (F : outParam HP) : Prop where
  eq : S = A * F
instance Pick.here (A F : HP) : Pick (A * F) A F := ⟨rfl⟩
instance (priority := low) Pick.there (A B S F : HP) [i : Pick S A F] : Pick (B * S) A (B * F) := ⟨by rw [i.eq, star_left]⟩
instance (priority := low - 1) Pick.last (A F : HP) : Pick (F * A) A F := ⟨star_comm _ _⟩
theorem SepI.pick {w : World} {S A F : HP} (H : SepI w S) (i : Pick S A F) : SepI w (A * F) := i.eq ▸ H
theorem SepI.unpick {w : World} {S A F : HP} (H : SepI w (A * F)) (i : Pick S A F) : SepI w S := i.eq ▸ H

/-- In S block g is o; with o' in its place S is S'. -/
class UpdB (S : HP) (g : Nat) (o : outParam Obj) (o' : Obj) (S' : outParam HP) : Prop where
  out : ∃ F, S = pts g o * F ∧ S' = pts g o' * F
instance UpdB.here (g : Nat) (o o' : Obj) (S : HP) : UpdB (pts g o * S) g o o' (pts g o' * S) := ⟨S, rfl, rfl⟩
instance (priority := low) UpdB.there (A S S' : HP) (g : Nat) (o o' : Obj) [i : UpdB S g o o' S'] : UpdB (A * S) g o o' (A * S') := ⟨by
  obtain ⟨F, rfl, rfl⟩ := i.out
  exact ⟨A * F, star_left _ _ _, star_left _ _ _⟩⟩
/-- In S block g is o. -/
class HasBlk (S : HP) (g : Nat) (o : outParam Obj) : Prop where
  out : ∃ F, S = pts g o * F
instance HasBlk.here (g : Nat) (o : Obj) (S : HP) : HasBlk (pts g o * S) g o := ⟨S, rfl⟩
instance (priority := low) HasBlk.there (A S : HP) (g : Nat) (o : Obj) [i : HasBlk S g o] : HasBlk (A * S) g o := ⟨by
  obtain ⟨F, rfl⟩ := i.out
  exact ⟨A * F, star_left _ _ _⟩⟩
theorem HasBlk.block {S : HP} {g : Nat} {o : Obj} (i : HasBlk S g o) {w : World} (H : SepI w S) : w.heap[g]? = some o := by
  obtain ⟨F, rfl⟩ := i.out
  exact H.block
theorem HasBlk.lt {S : HP} {g : Nat} {o : Obj} (i : HasBlk S g o) {w : World} (H : SepI w S) : g < w.heap.size := (Array.getElem?_eq_some_iff.1 (i.block H)).1

/-- How many blocks there are, in the walk's spelling. -/
class Sz (w : World) (n : outParam Nat) : Prop where
  out : w.heap.size = n
instance (priority := low) Sz.any (w : World) : Sz w w.heap.size := ⟨rfl⟩
instance Sz.alloc (w : World) (o : Obj) (n : Nat) [i : Sz w n] : Sz (w.alloc o) (n + 1) := ⟨by rw [World.size_alloc, i.out]⟩
instance Sz.setCell (w : World) (a : Addr) (v : Value) (n : Nat) [i : Sz w n] : Sz (w.setCell a v) n := ⟨by rw [World.size_setCell, i.out]⟩
instance Sz.drew (w : World) (n : Nat) [i : Sz w n] : Sz w.drew n := ⟨i.out⟩
instance Sz.drewN (w : World) (n m : Nat) [i : Sz w n] : Sz (w.drewN m) n := ⟨i.out⟩

instance SepI.i_alloc (w : World) (o : Obj) (S : HP) (n : Nat) [H : SepI w S] [z : Sz w n] : SepI (w.alloc o) (pts n o * S) :=
  SepI.new H (Nat.le_of_eq z.out) (by rw [← z.out]; show (w.heap.push o)[w.heap.size]? = some o; simp) (fun g hg => Below.heap_alloc w o g hg)
instance SepI.i_drew (w : World) (S : HP) [H : SepI w S] : SepI w.drew S := H.stays fun _ _ => rfl
instance SepI.i_drewN (w : World) (S : HP) (m : Nat) [H : SepI w S] : SepI (w.drewN m) S := H.stays fun _ _ => rfl
/-- A store. -/
instance SepI.i_setCell (w : World) (S S' : HP) (g j : Nat) (v : Value) (cs : Array Value) (t : TypeId) (fz : Nat × Nat) [H : SepI w S] [h : HasBlk S g (.cells cs t fz)]
    [i : UpdB S g (.cells cs t fz) (.cells (cs.setIfInBounds j v) t fz) S'] : SepI (w.setCell ⟨g, j, none⟩ v) S' := by
  obtain ⟨F, rfl, rfl⟩ := i.out
  refine H.write ?_ (fun k _ hk => Below.heap_setCell _ _ _ _ hk)
  have hb := H.block
  simp [World.setCell, Array.getElem?_modify, hb]

/-- What the walk reads. -/
theorem cell_blk (w : World) (S : HP) (g j : Nat) (cs : Array Value) (t : TypeId) (fz : Nat × Nat) [H : SepI w S] [h : HasBlk S g (.cells cs t fz)] : w.cell? ⟨g, j, none⟩ = cs[j]? := cell_of_row w g j cs t fz (h.block H)
theorem frozen_blk (w : World) (S : HP) (g j : Nat) (cs : Array Value) (t : TypeId) [H : SepI w S] [h : HasBlk S g (.cells cs t (0, 0))] : w.frozen? ⟨g, j, none⟩ = false := by simp [World.frozen?, h.block H]
theorem lt_blk (w : World) (S : HP) (g : Nat) (o : Obj) [H : SepI w S] [h : HasBlk S g o] : g < w.heap.size := h.lt H

/-! The streams and the size. -/
class ExtI (w w' : World) : Prop where
  os : w'.os = w.os
  tape : w'.tape = w.tape
  output : w'.output = w.output
  size : w.heap.size ≤ w'.heap.size
instance ExtI.refl (w : World) : ExtI w w := ⟨rfl, rfl, rfl, Nat.le_refl _⟩
instance ExtI.alloc (u w : World) (o : Obj) [i : ExtI u w] : ExtI u (w.alloc o) := ⟨i.os, i.tape, i.output, by rw [World.size_alloc]; exact Nat.le_succ_of_le i.size⟩
instance ExtI.setCell (u w : World) (a : Addr) (v : Value) [i : ExtI u w] : ExtI u (w.setCell a v) := ⟨i.os, i.tape, i.output, by rw [World.size_setCell]; exact i.size⟩
instance ExtI.drew (u w : World) [i : ExtI u w] : ExtI u w.drew := ⟨i.os, i.tape, i.output, i.size⟩
instance ExtI.drewN (u w : World) (n : Nat) [i : ExtI u w] : ExtI u (w.drewN n) := ⟨i.os, i.tape, i.output, i.size⟩
theorem ExtI.trans {u w w' : World} (a : ExtI u w) (b : ExtI w w') : ExtI u w' := ⟨b.os.trans a.os, b.tape.trans a.tape, b.output.trans a.output, Nat.le_trans a.size b.size⟩
/-- What a call leaves: T is owned, and nothing else has turned. -/
structure Post (w : World) (T : HP) (w' : World) : Prop where
  sep : SepI w' T
  ext : ∀ u [ExtI u w], ExtI u w'
theorem Post.mk' {w w' : World} {T : HP} (s : SepI w' T) (e : ExtI w w') : Post w T w' := ⟨s, fun u i => i.trans e⟩

/-- A call that turns nothing, in a region that draws behind another one. -/
theorem quietN {P : Program} {f : FuncId} {args : Array Value} {w : World} {a n : Nat} {v : Value} (h : Calls P f args (w.drewN (a + n)) fun e w' => e = .returned v ∧ w' = w.drewN (a + n)) :
    Calls P f args (w.drewN (a + n)) fun e w'' => e = .returned v ∧ ∃ m, w'' = w.drewN (a + m) := h.mono fun _ _ ⟨he, hm⟩ => ⟨he, n, hm⟩

/-- What is owned holds more than is told. -/
class Ent (S T : HP) : Prop where
  out : ∀ h, S h → ∃ h' : PH, T h' ∧ ∀ g, h' g = none ∨ h' g = h g
theorem Ent.sep {S T : HP} (i : Ent S T) {w : World} (H : SepI w S) : SepI w T := ⟨by
  obtain ⟨h, a, b⟩ := H.out
  obtain ⟨h', a', k⟩ := i.out h a
  exact ⟨h', a', fun g o q => b g o (by rcases k g with k | k <;> rw [k] at q; cases q; exact q)⟩⟩
instance (priority := high) Ent.refl (S : HP) : Ent S S := ⟨fun h a => ⟨h, a, fun _ => .inr rfl⟩⟩
instance Ent.star (S A F B : HP) [p : Pick S A F] [i : Ent F B] : Ent S (A * B) := ⟨fun h a => by
  rw [p.eq] at a
  obtain ⟨h1, h2, a1, a2, d, e⟩ := a
  obtain ⟨h2', b2, k⟩ := i.out h2 a2
  refine ⟨fun g => (h1 g).or (h2' g), ⟨h1, h2', a1, b2, fun g => ?_, fun _ => rfl⟩, fun g => ?_⟩
  · rcases d g with d | d
    · exact .inl d
    · rcases k g with k | k
      · exact .inr k
      · right; rw [k, d]
  · rcases k g with k | k
    · show (h1 g).or (h2' g) = none ∨ (h1 g).or (h2' g) = h g
      rw [k, e g]
      cases h1 g with
      | none => left; rfl
      | some x => right; rfl
    · right; show (h1 g).or (h2' g) = h g; rw [k, e g]⟩
instance (priority := low) Ent.last (S A F : HP) [p : Pick S A F] : Ent S A := ⟨fun h a => by
  rw [p.eq] at a
  obtain ⟨h1, h2, a1, a2, d, e⟩ := a
  refine ⟨h1, a1, fun g => ?_⟩
  rw [e g]
  cases h1 g with
  | none => left; rfl
  | some x => right; rfl⟩
end Go.Proofs.YtnioipbofopocaaDoor.SL
