/- A small separation logic over the model's worlds, so that what a call owns is found by instance search. Conditions: none; plain lemmas. -/
import Derived.Below
import Derived.Deep.Draws
import Derived.Deep.AppendLies
import Derived.Maps.AppendAt
import Derived.OwnWalk
import Derived.Laws.BytesArg
import Derived.Laws.MakeOwn
import Derived.Laws.OwnMore
import Derived.Deep.OwnRows
import Derived.Tactics
import Derived.Lib.ConvBytes
import Derived.Laws.Slices
import Derived.WalkKit
import Derived.KernelRfl
import Derived.RowKit3
import Derived.Deep.LoopGhost
import Derived.Deep.QuietTactic
import Derived.BigQuiet
import Derived.WideLaws
import Derived.Deep.DeepCutAuto
import Derived.Deep.CutBlock
import Derived.Deep.RegionHeld3
import Derived.Laws.Rows
import Derived.Lib.AppendStr
import Derived.ArgAppend
import Derived.Laws.IdiomCopy
import Derived.OrdersHeld
import Derived.Laws.BitsLemmas
import Derived.RowKit
import Derived.Test.YtobikkdnalnllaaProg
import Derived.StillTailTactics
import Derived.Deep.RegionWith
import Derived.WalkSpells
import Derived.Laws.AppendOwnNone
import Derived.StillTail
import Derived.Deep.RegionLaw
import Derived.Test.YtobikkdnalnllaaRows
import Derived.ProofKit
import Derived.OpenShut
import Derived.ShutString
import Derived.ChangeOld
import Derived.DataReads
import Derived.SizedLaws
import Derived.Deep.Slices
namespace Go.Proofs.Ytobikkdnalnllaa.SL
open Go.RowKit
set_option linter.unusedVariables false
/-- A fact that the walk doesn't look into. -/
structure Hd (p : Prop) : Prop where
  out : p
abbrev PH := Nat → Option Obj
def HP := PH → Prop
def HP.star (A B : HP) : HP := fun h => ∃ h1 h2 : PH, A h1 ∧ B h2 ∧ (∀ g, h1 g = none ∨ h2 g = none) ∧ ∀ g, h g = (h1 g).or (h2 g)
instance : Mul HP := ⟨HP.star⟩
theorem star_def (A B : HP) (h : PH) : (A * B) h ↔ ∃ h1 h2 : PH, A h1 ∧ B h2 ∧ (∀ g, h1 g = none ∨ h2 g = none) ∧ ∀ g, h g = (h1 g).or (h2 g) := Iff.rfl
theorem star_comm_imp (A B : HP) (h : PH) (H : (A * B) h) : (B * A) h := by
  obtain ⟨h1, h2, a, b, d, e⟩ := H
  refine ⟨h2, h1, b, a, fun g => (d g).symm, fun g => ?_⟩
  rw [e g]
  rcases d g with d | d <;> rw [d]
  · cases h2 g <;> rfl
  · cases h1 g <;> rfl
theorem star_assoc_imp (A B C : HP) (h : PH) (H : (A * B * C) h) : (A * (B * C)) h := by
  obtain ⟨h12, h3, ⟨h1, h2, a, b, d, e⟩, c, d', e'⟩ := H
  refine ⟨h1, fun g => (h2 g).or (h3 g), a, ⟨h2, h3, b, c, ?_, fun g => rfl⟩, ?_, ?_⟩
  · intro g
    rcases d' g with q | q
    · rw [e g] at q
      left
      cases h2' : h2 g with
      | none => rfl
      | some x => rw [h2'] at q; cases h1 g <;> simp at q
    · exact .inr q
  · intro g
    rcases d g with q | q
    · exact .inl q
    · rcases d' g with r | r
      · rw [e g] at r
        left
        cases h1' : h1 g with
        | none => rfl
        | some x => rw [h1'] at r; simp at r
      · right; simp [q, r]
  · intro g
    rw [e' g, e g]
    show ((h1 g).or (h2 g)).or (h3 g) = (h1 g).or ((h2 g).or (h3 g))
    cases h1 g <;> cases h2 g <;> cases h3 g <;> rfl
theorem star_comm (A B : HP) : A * B = B * A := funext fun h => propext ⟨star_comm_imp A B h, star_comm_imp B A h⟩
theorem star_assoc (A B C : HP) : A * B * C = A * (B * C) := funext fun h => propext ⟨star_assoc_imp A B C h, fun H => by
  have h1 : (B * C * A) h := star_comm_imp _ _ _ H
  have h2 := star_assoc_imp _ _ _ _ h1
  have h3 : (C * A * B) h := star_comm_imp _ _ _ h2
  have h4 := star_assoc_imp _ _ _ _ h3
  exact star_comm_imp _ _ _ h4⟩
theorem star_left (A B C : HP) : A * (B * C) = B * (A * C) := by rw [← star_assoc, star_comm A B, star_assoc]
instance : Std.Associative (α := HP) (· * ·) := ⟨star_assoc⟩
instance : Std.Commutative (α := HP) (· * ·) := ⟨star_comm⟩
/-- Nothing is owned. -/
def emp : HP := fun _ => True
/-- Block g is o. -/
def pts (g : Nat) (o : Obj) : HP := fun h => h g = some o
/-- All of an elder world. -/
def old (w0 : World) : HP := fun h => ∀ g, g < w0.heap.size → h g = w0.heap[g]?
class SepI (w : World) (S : outParam HP) : Prop where
  out : ∃ h : PH, S h ∧ ∀ g o, h g = some o → w.heap[g]? = some o
theorem SepI.mono {w : World} {S T : HP} (H : SepI w S) (i : ∀ h, S h → T h) : SepI w T := ⟨by
  obtain ⟨h, a, b⟩ := H.out
  exact ⟨h, i h a, b⟩⟩
theorem SepI.cast {w : World} {S T : HP} (H : SepI w S) (e : S = T) : SepI w T := e ▸ H
theorem SepI.right {w : World} {A F : HP} (H : SepI w (A * F)) : SepI w F := ⟨by
  obtain ⟨h, ⟨h1, h2, a, b, d, e⟩, k⟩ := H.out
  exact ⟨h2, b, fun g o q => k g o (by rw [e g, q]; rcases d g with d | d <;> simp_all)⟩⟩
theorem SepI.left {w : World} {A F : HP} (H : SepI w (A * F)) : SepI w A := ⟨by
  obtain ⟨h, ⟨h1, h2, a, b, d, e⟩, k⟩ := H.out
  exact ⟨h1, a, fun g o q => k g o (by rw [e g, q]; rfl)⟩⟩
theorem SepI.emp {w : World} {S : HP} (H : SepI w S) : SepI w (emp * S) := ⟨by
  obtain ⟨h, a, b⟩ := H.out
  exact ⟨h, ⟨fun _ => none, h, trivial, a, fun _ => .inl rfl, fun _ => rfl⟩, b⟩⟩
theorem SepI.all (w : World) : SepI w (old w) := ⟨⟨fun g => w.heap[g]?, fun g _ => rfl, fun g o h => h⟩⟩
/-- One part has turned; all else stays. D: which blocks the part is. -/
theorem SepI.turn {w w' : World} {A A' F : HP} (H : SepI w (A * F))
    (t : ∀ h : PH, A h → (∀ g o, h g = some o → w.heap[g]? = some o) → ∃ h' : PH, A' h' ∧ (∀ g o, h' g = some o → w'.heap[g]? = some o) ∧ (∀ g, h' g ≠ none → h g ≠ none ∨ w.heap.size ≤ g) ∧
      ∀ g, g < w.heap.size → h g = none → w'.heap[g]? = w.heap[g]?) : SepI w' (A' * F) := ⟨by
  obtain ⟨h, ⟨h1, h2, a, b, d, e⟩, k⟩ := H.out
  obtain ⟨h', a', k', n', s'⟩ := t h1 a (fun g o q => k g o (by rw [e g, q]; rfl))
  have in2 : ∀ g o, h2 g = some o → w.heap[g]? = some o := fun g o q => k g o (by rw [e g, q]; rcases d g with d | d <;> simp_all)
  have dis : ∀ g, h' g = none ∨ h2 g = none := fun g => by
    cases q : h' g with
    | none => exact .inl rfl
    | some x =>
      right
      rcases n' g (by rw [q]; simp) with n | n
      · rcases d g with d | d
        · exact absurd d n
        · exact d
      · cases r : h2 g with
        | none => rfl
        | some y =>
          have := (Array.getElem?_eq_some_iff.1 (in2 g y r)).1
          omega
  refine ⟨fun g => (h' g).or (h2 g), ⟨h', h2, a', b, dis, fun _ => rfl⟩, fun g o q => ?_⟩
  replace q : (h' g).or (h2 g) = some o := q
  cases r : h' g with
  | some x => rw [r] at q; exact k' g o (by rw [r]; exact q)
  | none =>
    rw [r] at q
    have q2 : h2 g = some o := q
    have lt := (Array.getElem?_eq_some_iff.1 (in2 g o q2)).1
    rw [s' g lt (by rcases d g with d | d; exact d; rw [d] at q2; cases q2)]
    exact in2 g o q2⟩
/-- Nothing that was there has turned. -/
theorem SepI.stays {w w' : World} {S : HP} (H : SepI w S) (hk : ∀ g, g < w.heap.size → w'.heap[g]? = w.heap[g]?) : SepI w' S := ⟨by
  obtain ⟨h, a, b⟩ := H.out
  exact ⟨h, a, fun g o q => by rw [hk g (Array.getElem?_eq_some_iff.1 (b g o q)).1]; exact b g o q⟩⟩
theorem SepI.below {w w' : World} {S : HP} (H : SepI w S) (hb : Below w.heap.size w w') : SepI w' S := H.stays hb.block
theorem SepI.block {w : World} {g : Nat} {o : Obj} {F : HP} (H : SepI w (pts g o * F)) : w.heap[g]? = some o := by
  obtain ⟨h, ⟨h1, h2, a, b, d, e⟩, k⟩ := H.out
  exact k g o (by rw [e g]; rw [show h1 g = some o from a]; rfl)
theorem SepI.new {w w' : World} {S : HP} (H : SepI w S) {g : Nat} {o : Obj} (hg : w.heap.size ≤ g) (ho : w'.heap[g]? = some o) (hk : ∀ g, g < w.heap.size → w'.heap[g]? = w.heap[g]?) : SepI w' (pts g o * S) :=
  (H.emp).turn fun h _ _ => ⟨fun k => if k = g then some o else none, by simp [pts], fun k p q => by
    by_cases e : k = g
    · subst e; simp at q; subst q; exact ho
    · simp [e] at q, fun k q => by
    by_cases e : k = g
    · subst e; exact .inr hg
    · simp [e] at q, fun k lt _ => hk k lt⟩
theorem SepI.write {w w' : World} {g : Nat} {o o' : Obj} {F : HP} (H : SepI w (pts g o * F)) (ho : w'.heap[g]? = some o') (hk : ∀ k, k < w.heap.size → k ≠ g → w'.heap[k]? = w.heap[k]?) : SepI w' (pts g o' * F) :=
  H.turn fun h a _ => ⟨fun k => if k = g then some o' else none, by simp [pts], fun k p q => by
    by_cases e : k = g
    · subst e; simp at q; subst q; exact ho
    · simp [e] at q, fun k q => by
    by_cases e : k = g
    · subst e; left; rw [show h k = some o from a]; simp
    · simp [e] at q, fun k lt hn => hk k lt (by rintro rfl; rw [show h k = some o from a] at hn; cases hn)⟩
/-- S is A beside F. -/
class Pick (S A : HP) (F : outParam HP) : Prop where
  eq : S = A * F
instance Pick.here (A F : HP) : Pick (A * F) A F := ⟨rfl⟩
instance (priority := low) Pick.there (A B S F : HP) [i : Pick S A F] : Pick (B * S) A (B * F) := ⟨by rw [i.eq, star_left]⟩
instance (priority := low - 1) Pick.last (A F : HP) : Pick (F * A) A F := ⟨star_comm _ _⟩
theorem SepI.pick {w : World} {S A F : HP} (H : SepI w S) (i : Pick S A F) : SepI w (A * F) := i.eq ▸ H
theorem SepI.unpick {w : World} {S A F : HP} (H : SepI w (A * F)) (i : Pick S A F) : SepI w S := i.eq ▸ H
/-- In S block g is o; with o' in its place S is S'. -/
class UpdB (S : HP) (g : Nat) (o : outParam Obj) (o' : Obj) (S' : outParam HP) : Prop where
  out : ∃ F, S = pts g o * F ∧ S' = pts g o' * F
instance UpdB.here (g : Nat) (o o' : Obj) (S : HP) : UpdB (pts g o * S) g o o' (pts g o' * S) := ⟨S, rfl, rfl⟩
instance (priority := low) UpdB.there (A S S' : HP) (g : Nat) (o o' : Obj) [i : UpdB S g o o' S'] : UpdB (A * S) g o o' (A * S') := ⟨by
  obtain ⟨F, rfl, rfl⟩ := i.out
  exact ⟨A * F, star_left _ _ _, star_left _ _ _⟩⟩
/-- In S block g is o. -/
class HasBlk (S : HP) (g : Nat) (o : outParam Obj) : Prop where
  out : ∃ F, S = pts g o * F
instance HasBlk.here (g : Nat) (o : Obj) (S : HP) : HasBlk (pts g o * S) g o := ⟨S, rfl⟩
instance (priority := low) HasBlk.there (A S : HP) (g : Nat) (o : Obj) [i : HasBlk S g o] : HasBlk (A * S) g o := ⟨by
  obtain ⟨F, rfl⟩ := i.out
  exact ⟨A * F, star_left _ _ _⟩⟩
theorem HasBlk.block {S : HP} {g : Nat} {o : Obj} (i : HasBlk S g o) {w : World} (H : SepI w S) : w.heap[g]? = some o := by
  obtain ⟨F, rfl⟩ := i.out
  exact H.block
theorem HasBlk.lt {S : HP} {g : Nat} {o : Obj} (i : HasBlk S g o) {w : World} (H : SepI w S) : g < w.heap.size := (Array.getElem?_eq_some_iff.1 (i.block H)).1
/-- How many blocks there are, in the walk's spelling. -/
class Sz (w : World) (n : outParam Nat) : Prop where
  out : w.heap.size = n
instance (priority := low) Sz.any (w : World) : Sz w w.heap.size := ⟨rfl⟩
instance Sz.alloc (w : World) (o : Obj) (n : Nat) [i : Sz w n] : Sz (w.alloc o) (n + 1) := ⟨by rw [World.size_alloc, i.out]⟩
instance Sz.setCell (w : World) (a : Addr) (v : Value) (n : Nat) [i : Sz w n] : Sz (w.setCell a v) n := ⟨by rw [World.size_setCell, i.out]⟩
instance Sz.drew (w : World) (n : Nat) [i : Sz w n] : Sz w.drew n := ⟨i.out⟩
instance Sz.drewN (w : World) (n m : Nat) [i : Sz w n] : Sz (w.drewN m) n := ⟨i.out⟩
instance SepI.i_alloc (w : World) (o : Obj) (S : HP) (n : Nat) [H : SepI w S] [z : Sz w n] : SepI (w.alloc o) (pts n o * S) :=
  SepI.new H (Nat.le_of_eq z.out) (by rw [← z.out]; show (w.heap.push o)[w.heap.size]? = some o; simp) (fun g hg => Below.heap_alloc w o g hg)
instance SepI.i_drew (w : World) (S : HP) [H : SepI w S] : SepI w.drew S := H.stays fun _ _ => rfl
instance SepI.i_drewN (w : World) (S : HP) (m : Nat) [H : SepI w S] : SepI (w.drewN m) S := H.stays fun _ _ => rfl
/-- A store. -/
instance SepI.i_setCell (w : World) (S S' : HP) (g j : Nat) (v : Value) (cs : Array Value) (t : TypeId) (fz : Nat × Nat) [H : SepI w S] [h : HasBlk S g (.cells cs t fz)]
    [i : UpdB S g (.cells cs t fz) (.cells (cs.setIfInBounds j v) t fz) S'] : SepI (w.setCell ⟨g, j, none⟩ v) S' := by
  obtain ⟨F, rfl, rfl⟩ := i.out
  refine H.write ?_ (fun k _ hk => Below.heap_setCell _ _ _ _ hk)
  have hb := H.block
  simp [World.setCell, Array.getElem?_modify, hb]
/-- What the walk reads. -/
theorem cell_blk (w : World) (S : HP) (g j : Nat) (cs : Array Value) (t : TypeId) (fz : Nat × Nat) [H : SepI w S] [h : HasBlk S g (.cells cs t fz)] : w.cell? ⟨g, j, none⟩ = cs[j]? := cell_of_row w g j cs t fz (h.block H)
theorem frozen_blk (w : World) (S : HP) (g j : Nat) (cs : Array Value) (t : TypeId) [H : SepI w S] [h : HasBlk S g (.cells cs t (0, 0))] : w.frozen? ⟨g, j, none⟩ = false := by simp [World.frozen?, h.block H]
theorem lt_blk (w : World) (S : HP) (g : Nat) (o : Obj) [H : SepI w S] [h : HasBlk S g o] : g < w.heap.size := h.lt H
/-! The streams and the size. -/
class ExtI (w w' : World) : Prop where
  os : w'.os = w.os
  tape : w'.tape = w.tape
  output : w'.output = w.output
  size : w.heap.size ≤ w'.heap.size
instance ExtI.refl (w : World) : ExtI w w := ⟨rfl, rfl, rfl, Nat.le_refl _⟩
instance ExtI.alloc (u w : World) (o : Obj) [i : ExtI u w] : ExtI u (w.alloc o) := ⟨i.os, i.tape, i.output, by rw [World.size_alloc]; exact Nat.le_succ_of_le i.size⟩
instance ExtI.setCell (u w : World) (a : Addr) (v : Value) [i : ExtI u w] : ExtI u (w.setCell a v) := ⟨i.os, i.tape, i.output, by rw [World.size_setCell]; exact i.size⟩
instance ExtI.drew (u w : World) [i : ExtI u w] : ExtI u w.drew := ⟨i.os, i.tape, i.output, i.size⟩
instance ExtI.drewN (u w : World) (n : Nat) [i : ExtI u w] : ExtI u (w.drewN n) := ⟨i.os, i.tape, i.output, i.size⟩
theorem ExtI.trans {u w w' : World} (a : ExtI u w) (b : ExtI w w') : ExtI u w' := ⟨b.os.trans a.os, b.tape.trans a.tape, b.output.trans a.output, Nat.le_trans a.size b.size⟩
/-- What a call leaves: T is owned, and nothing else has turned. -/
structure Post (w : World) (T : HP) (w' : World) : Prop where
  sep : SepI w' T
  ext : ∀ u [ExtI u w], ExtI u w'
theorem Post.mk' {w w' : World} {T : HP} (s : SepI w' T) (e : ExtI w w') : Post w T w' := ⟨s, fun u i => i.trans e⟩
/-- A call that turns nothing, in a region that draws behind another one. -/
theorem quietN {P : Program} {f : FuncId} {args : Array Value} {w : World} {a n : Nat} {v : Value} (h : Calls P f args (w.drewN (a + n)) fun e w' => e = .returned v ∧ w' = w.drewN (a + n)) :
    Calls P f args (w.drewN (a + n)) fun e w'' => e = .returned v ∧ ∃ m, w'' = w.drewN (a + m) := h.mono fun _ _ ⟨he, hm⟩ => ⟨he, n, hm⟩
/-- What is owned holds more than is told. -/
class Ent (S T : HP) : Prop where
  out : ∀ h, S h → ∃ h' : PH, T h' ∧ ∀ g, h' g = none ∨ h' g = h g
theorem Ent.sep {S T : HP} (i : Ent S T) {w : World} (H : SepI w S) : SepI w T := ⟨by
  obtain ⟨h, a, b⟩ := H.out
  obtain ⟨h', a', k⟩ := i.out h a
  exact ⟨h', a', fun g o q => b g o (by rcases k g with k | k <;> rw [k] at q; cases q; exact q)⟩⟩
instance (priority := high) Ent.refl (S : HP) : Ent S S := ⟨fun h a => ⟨h, a, fun _ => .inr rfl⟩⟩
instance Ent.star (S A F B : HP) [p : Pick S A F] [i : Ent F B] : Ent S (A * B) := ⟨fun h a => by
  rw [p.eq] at a
  obtain ⟨h1, h2, a1, a2, d, e⟩ := a
  obtain ⟨h2', b2, k⟩ := i.out h2 a2
  refine ⟨fun g => (h1 g).or (h2' g), ⟨h1, h2', a1, b2, fun g => ?_, fun _ => rfl⟩, fun g => ?_⟩
  · rcases d g with d | d
    · exact .inl d
    · rcases k g with k | k
      · exact .inr k
      · right; rw [k, d]
  · rcases k g with k | k
    · show (h1 g).or (h2' g) = none ∨ (h1 g).or (h2' g) = h g
      rw [k, e g]
      cases h1 g with
      | none => left; rfl
      | some x => right; rfl
    · right; show (h1 g).or (h2' g) = h g; rw [k, e g]⟩
instance (priority := low) Ent.last (S A F : HP) [p : Pick S A F] : Ent S A := ⟨fun h a => by
  rw [p.eq] at a
  obtain ⟨h1, h2, a1, a2, d, e⟩ := a
  refine ⟨h1, a1, fun g => ?_⟩
  rw [e g]
  cases h1 g with
  | none => left; rfl
  | some x => right; rfl⟩
end Go.Proofs.Ytobikkdnalnllaa.SL
namespace Go.Proofs.Ytobikkdnalnllaa.SL
open Go.RowKit
set_option linter.unusedVariables false
/-- Slice value v of n elements of type e (size cells each) is owned; its cells are cs. -/
def Row (e : TypeId) (size : Nat) (v : Value) (n : Nat) (cs : List Value) : HP := fun h =>
  cs.length = n * size ∧ ((v = .slice none 0 0 ∧ n = 0) ∨
   ∃ g cap cur, v = .slice (some ⟨g, 0, none⟩) n cap ∧ h g = some (.cells cur e (0, 0)) ∧ n ≤ cap ∧ cap ≤ maxLen ∧ cur.size = cap * size ∧ cur.toList.take (n * size) = cs)
theorem Row.own {w : World} {e : TypeId} {size : Nat} {v : Value} {n : Nat} {cs : List Value} {F : HP} (H : SepI w (Row e size v n cs * F)) : w.ownsRow 0 e size v n cs := by
  obtain ⟨h, ⟨hl, r⟩, k⟩ := H.left.out
  refine ⟨hl, ?_⟩
  rcases r with r | ⟨g, cap, cur, hv, hg, q⟩
  · exact .inl r
  · exact .inr ⟨g, cap, cur, hv, Nat.zero_le _, k g _ hg, q⟩
theorem Row.nil0 {w : World} {S : HP} (H : SepI w S) (e : TypeId) (size : Nat) : SepI w (Row e size (.slice none 0 0) 0 [] * S) :=
  (H.emp).turn fun h _ _ => ⟨fun _ => Option.none, ⟨by simp, .inl ⟨rfl, rfl⟩⟩, fun _ _ q => by simp at q, fun _ q => absurd rfl q, fun _ _ _ => rfl⟩
theorem Row.open {w : World} {e : TypeId} {size : Nat} {v : Value} {n : Nat} {cs : List Value} {F : HP} (H : SepI w (Row e size v n cs * F)) :
    (v = .slice none 0 0 ∧ n = 0 ∧ cs = []) ∨ ∃ g cap cur, v = .slice (some ⟨g, 0, none⟩) n cap ∧ cs.length = n * size ∧ n ≤ cap ∧ cap ≤ maxLen ∧ cur.size = cap * size ∧ cur.toList.take (n * size) = cs ∧ SepI w (pts g (.cells cur e (0, 0)) * F) := by
  obtain ⟨h, ⟨h1, h2, ⟨hl, r⟩, b, d, ee⟩, k⟩ := H.out
  rcases r with ⟨rfl, rfl⟩ | ⟨g, cap, cur, hv, hg, q1, q2, q3, q4⟩
  · left; exact ⟨rfl, rfl, by simpa using hl⟩
  · right; exact ⟨g, cap, cur, hv, hl, q1, q2, q3, q4, ⟨h, ⟨h1, h2, hg, b, d, ee⟩, k⟩⟩
theorem Row.close {w : World} {e : TypeId} {size g n cap : Nat} {cur : Array Value} {F : HP} (H : SepI w (pts g (.cells cur e (0, 0)) * F)) (h1 : n ≤ cap) (h2 : cap ≤ maxLen) (h3 : cur.size = cap * size) :
    SepI w (Row e size (.slice (some ⟨g, 0, none⟩) n cap) n (cur.toList.take (n * size)) * F) := by
  obtain ⟨h, ⟨ha, hb, a, b, d, ee⟩, k⟩ := H.out
  refine ⟨⟨h, ⟨ha, hb, ⟨?_, .inr ⟨g, cap, cur, rfl, a, h1, h2, h3, rfl⟩⟩, b, d, ee⟩, k⟩⟩
  rw [List.length_take, Array.length_toList, h3]
  exact Nat.min_eq_left (Nat.mul_le_mul_right _ h1)
theorem Row.len {w : World} {e : TypeId} {size : Nat} {v : Value} {n : Nat} {cs : List Value} {F : HP} (H : SepI w (Row e size v n cs * F)) : cs.length = n * size := by
  obtain ⟨h, ⟨hl, _⟩, _⟩ := H.left.out
  exact hl
theorem Row.form {w : World} {e : TypeId} {size : Nat} {v : Value} {n : Nat} {cs : List Value} {F : HP} (H : SepI w (Row e size v n cs * F)) : ∃ A c, v = .slice A n c ∧ n ≤ c ∧ c ≤ maxLen := by
  rcases Row.open H with ⟨rfl, rfl, _⟩ | ⟨g, cap, cur, rfl, _, h1, h2, _⟩
  · exact ⟨_, _, rfl, Nat.le_refl _, by unfold maxLen; omega⟩
  · exact ⟨_, _, rfl, h1, h2⟩
/-- S is the row of v beside F. -/
class PickR (S : HP) (e size : outParam Nat) (v : Value) (n : outParam Nat) (cs : outParam (List Value)) (F : outParam HP) : Prop where
  eq : S = Row e size v n cs * F
instance PickR.here (e size : Nat) (v : Value) (n : Nat) (cs : List Value) (F : HP) : PickR (Row e size v n cs * F) e size v n cs F := ⟨rfl⟩
instance (priority := low) PickR.there (A S : HP) (e size : Nat) (v : Value) (n : Nat) (cs : List Value) (F : HP) [i : PickR S e size v n cs F] : PickR (A * S) e size v n cs (A * F) := ⟨by rw [i.eq, star_left]⟩
instance (priority := low - 1) PickR.last (A : HP) (e size : Nat) (v : Value) (n : Nat) (cs : List Value) : PickR (A * Row e size v n cs) e size v n cs A := ⟨star_comm _ _⟩
theorem SepI.pickR {w : World} {S F : HP} {e size : Nat} {v : Value} {n : Nat} {cs : List Value} (H : SepI w S) (i : PickR S e size v n cs F) : SepI w (Row e size v n cs * F) := i.eq ▸ H
/-- Cells that are read: where S holds, the cells behind address A are cs. -/
class Rd (S : HP) (A : Option Addr) (cs : outParam (List Value)) : Prop where
  out : ∀ w, SepI w S → cs = [] ∨ ∃ b off, A = some ⟨b, off, none⟩ ∧ b < w.heap.size ∧ ∀ j v, cs[j]? = some v → w.cell? ⟨b, off + j, none⟩ = some v
instance (priority := low) Rd.there (X S : HP) (A : Option Addr) (cs : List Value) [i : Rd S A cs] : Rd (X * S) A cs := ⟨fun w H => i.out w H.right⟩
theorem Rd.left {X S : HP} {A : Option Addr} {cs : List Value} (i : Rd X A cs) : Rd (X * S) A cs := ⟨fun w H => i.out w H.left⟩
theorem Rd.nil (S : HP) (A : Option Addr) : Rd S A [] := ⟨fun _ _ => .inl rfl⟩
instance Rd.of_row (e size : Nat) (A : Option Addr) (n c : Nat) (cs : List Value) (F : HP) : Rd (Row e size (.slice A n c) n cs * F) A cs := ⟨fun w H => by
  rcases Row.open H with ⟨_, _, h⟩ | ⟨g, cap, cur, hv, hl, h1, h2, h3, h4, H'⟩
  · exact .inl h
  · right
    injection hv with hA _ _
    refine ⟨g, 0, hA, (Array.getElem?_eq_some_iff.1 H'.block).1, fun j v hj => ?_⟩
    rw [Nat.zero_add, cell_of_row w g j cur e (0, 0) H'.block, ← Array.getElem?_toList]
    rw [← h4] at hj
    rw [List.getElem?_take] at hj
    split at hj
    · exact hj
    · cases hj⟩
instance Rd.of_row_last (X : HP) (e size : Nat) (A : Option Addr) (n c : Nat) (cs : List Value) : Rd (X * Row e size (.slice A n c) n cs) A cs := ⟨fun w H => by
  rw [star_comm] at H
  exact (Rd.of_row e size A n c cs X).out w H⟩
/-- Of the whole elder world. -/
theorem Rd.of_old {w0 : World} {A : Option Addr} {cs : List Value} (h : cs = [] ∨ ∃ b off, A = some ⟨b, off, none⟩ ∧ b < w0.heap.size ∧ ∀ j v, cs[j]? = some v → w0.cell? ⟨b, off + j, none⟩ = some v) : Rd (old w0) A cs := ⟨fun w H => by
  rcases h with h | ⟨b, off, hA, hb, hc⟩
  · exact .inl h
  · obtain ⟨p, hp, k⟩ := H.out
    have e : w.heap[b]? = w0.heap[b]? := by
      have h1 := hp b hb
      rw [Array.getElem?_eq_getElem hb] at h1 ⊢
      exact k b _ h1
    exact .inr ⟨b, off, hA, by
      rw [Array.getElem?_eq_getElem hb] at e
      exact (Array.getElem?_eq_some_iff.1 e).1, fun j v hj => by rw [← hc j v hj]; exact World.cell?_of_block (w := w0) e⟩⟩
/-- The address of what is read, where there is something. -/
theorem Rd.addr {S : HP} {A : Option Addr} {cs : List Value} (i : Rd S A cs) {w : World} (H : SepI w S) {j : Nat} (hj : j < cs.length) : ∃ b off, A = some ⟨b, off, none⟩ := by
  rcases i.out w H with h | ⟨b, off, hA, _⟩
  · rw [h] at hj; simp at hj
  · exact ⟨b, off, hA⟩
/-- One cell that is read. -/
class CellAt (S : HP) (b j : Nat) (v : outParam Value) : Prop where
  out : ∀ w, SepI w S → w.cell? ⟨b, j, none⟩ = some v
instance (priority := low) CellAt.there (X S : HP) (b j : Nat) (v : Value) [i : CellAt S b j v] : CellAt (X * S) b j v := ⟨fun w H => i.out w H.right⟩
theorem Rd.cell {S : HP} {b off : Nat} {cs : List Value} (i : Rd S (some ⟨b, off, none⟩) cs) {j : Nat} {v : Value} (h : cs[j]? = some v) : CellAt S b (off + j) v := ⟨fun w H => by
  rcases i.out w H with h' | ⟨b', off', hA, _, hc⟩
  · rw [h'] at h; simp at h
  · injection hA with hA
    injection hA with h1 h2
    subst h1; subst h2
    exact hc j v h⟩
theorem cell_at (w : World) (S : HP) (b j : Nat) (v : Value) [H : SepI w S] [h : CellAt S b j v] : w.cell? ⟨b, j, none⟩ = some v := h.out w H
theorem lt_rd {w : World} {S : HP} {b off : Nat} {cs : List Value} [H : SepI w S] (h : Rd S (some ⟨b, off, none⟩) cs) (hc : 0 < cs.length) : b < w.heap.size := by
  rcases h.out w H with h' | ⟨b', off', hA, hb, _⟩
  · rw [h'] at hc; simp at hc
  · injection hA with hA
    injection hA with h1 h2
    subst h1
    exact hb
/-- In S block g is an owned row; with cs' in place of its cells S is S'. -/
class UpdR (S : HP) (g : Nat) (e size n c : outParam Nat) (cs : outParam (List Value)) (cs' : List Value) (S' : outParam HP) : Prop where
  out : ∃ F, S = Row e size (.slice (some ⟨g, 0, none⟩) n c) n cs * F ∧ S' = Row e size (.slice (some ⟨g, 0, none⟩) n c) n cs' * F
instance UpdR.here (g e size n c : Nat) (cs cs' : List Value) (S : HP) : UpdR (Row e size (.slice (some ⟨g, 0, none⟩) n c) n cs * S) g e size n c cs cs' (Row e size (.slice (some ⟨g, 0, none⟩) n c) n cs' * S) := ⟨S, rfl, rfl⟩
instance (priority := low) UpdR.there (A S S' : HP) (g e size n c : Nat) (cs cs' : List Value) [i : UpdR S g e size n c cs cs' S'] : UpdR (A * S) g e size n c cs cs' (A * S') := ⟨by
  obtain ⟨F, rfl, rfl⟩ := i.out
  exact ⟨A * F, star_left _ _ _, star_left _ _ _⟩⟩
class HasR (S : HP) (g : Nat) (e size n c : outParam Nat) (cs : outParam (List Value)) : Prop where
  out : ∃ F, S = Row e size (.slice (some ⟨g, 0, none⟩) n c) n cs * F
instance HasR.here (g e size n c : Nat) (cs : List Value) (S : HP) : HasR (Row e size (.slice (some ⟨g, 0, none⟩) n c) n cs * S) g e size n c cs := ⟨S, rfl⟩
instance (priority := low) HasR.there (A S : HP) (g e size n c : Nat) (cs : List Value) [i : HasR S g e size n c cs] : HasR (A * S) g e size n c cs := ⟨by
  obtain ⟨F, rfl⟩ := i.out
  exact ⟨A * F, star_left _ _ _⟩⟩
theorem take_set' (cur : Array Value) (j m : Nat) (v : Value) : (cur.setIfInBounds j v).toList.take m = (cur.toList.take m).set j v := by
  rw [Array.toList_setIfInBounds, List.take_set]
instance SepI.i_setRow (w : World) (S S' : HP) (g j : Nat) (v : Value) (e size n c : Nat) (cs : List Value) [H : SepI w S] [h : HasR S g e size n c cs]
    [i : UpdR S g e size n c cs (cs.set j v) S'] : SepI (w.setCell ⟨g, j, none⟩ v) S' := by
  obtain ⟨F, rfl, rfl⟩ := i.out
  rcases Row.open H with ⟨hv, _⟩ | ⟨g', cap, cur, hv, hl, h1, h2, h3, h4, H'⟩
  · cases hv
  · injection hv with hA _ hc
    injection hA with hA
    injection hA with hA
    subst hA; subst hc
    have H2 : SepI (w.setCell ⟨g, j, none⟩ v) (pts g (.cells (cur.setIfInBounds j v) e (0, 0)) * F) := SepI.i_setCell w _ _ g j v cur e (0, 0)
    have H3 := Row.close (size := size) H2 h1 h2 (by rw [Array.size_setIfInBounds, h3])
    rw [take_set', h4] at H3
    exact H3
theorem frozen_row (w : World) (S : HP) (g j : Nat) (e size n c : Nat) (cs : List Value) [H : SepI w S] [h : HasR S g e size n c cs] : w.frozen? ⟨g, j, none⟩ = false := by
  obtain ⟨F, rfl⟩ := h.out
  rcases Row.open H with ⟨hv, _⟩ | ⟨g', cap, cur, hv, hl, h1, h2, h3, h4, H'⟩
  · cases hv
  · injection hv with hA _ hc
    injection hA with hA
    injection hA with hA
    subst hA
    simp [World.frozen?, H'.block]
theorem lt_row (w : World) (S : HP) (g : Nat) (e size n c : Nat) (cs : List Value) [H : SepI w S] [h : HasR S g e size n c cs] : g < w.heap.size := by
  obtain ⟨F, rfl⟩ := h.out
  rcases Row.open H with ⟨hv, _⟩ | ⟨g', cap, cur, hv, hl, h1, h2, h3, h4, H'⟩
  · cases hv
  · injection hv with hA _ hc
    injection hA with hA
    injection hA with hA
    subst hA
    exact (Array.getElem?_eq_some_iff.1 H'.block).1
theorem ret_b {a b : Bool} (h : a = b) : Ending.returned (.bool a) = .returned (.bool b) := by rw [h]
theorem ret_i {a b : Int} (h : a = b) : Ending.returned (.int .i64 a) = .returned (.int .i64 b) := by rw [h]
theorem Row.cellAt {e size n c g : Nat} {cs : List Value} {F : HP} {j : Nat} {v : Value} (h : cs[j]? = some v) : CellAt (Row e size (.slice (some ⟨g, 0, none⟩) n c) n cs * F) g j v := ⟨fun w H => by
  have i : Rd (Row e size (.slice (some ⟨g, 0, none⟩) n c) n cs * F) (some ⟨g, 0, none⟩) cs := Rd.of_row e size _ n c cs F
  have := (i.cell h).out w H
  rwa [Nat.zero_add] at this⟩
def ints (xs : List Int) : List Value := xs.map (Value.int .i64)
theorem ints_len (xs : List Int) : (ints xs).length = xs.length := by simp [ints]
theorem ints_get {xs : List Int} {k : Nat} {x : Int} (h : xs[k]? = some x) : (ints xs)[k]? = some (.int .i64 x) := by simp [ints, h]
theorem ints_append (xs ys : List Int) : ints (xs ++ ys) = ints xs ++ ints ys := by simp [ints]
theorem get_ex {α : Type} {xs : List α} {k : Nat} (h : k < xs.length) : ∃ x, xs[k]? = some x := ⟨xs[k], by simp [h]⟩
theorem take_succ_eq {α : Type} {xs : List α} {k : Nat} {x : α} (h : xs[k]? = some x) : xs.take (k + 1) = xs.take k ++ [x] := by rw [List.take_add_one, h]; rfl
theorem ne_of_get {α : Type} {xs ys : List α} {k : Nat} {x y : α} (h : xs[k]? = some x) (h' : ys[k]? = some y) (hn : x ≠ y) : xs ≠ ys := by
  rintro rfl
  rw [h] at h'
  exact hn (Option.some.inj h')
theorem flat_get {α β : Type} {f : α → List β} {k : Nat} (hf : ∀ x, (f x).length = k) : ∀ {xs : List α} {j : Nat} {x : α}, xs[j]? = some x → ∀ i, i < k → (xs.flatMap f)[j * k + i]? = (f x)[i]?
  | [], j, x, h, i, hi => by simp at h
  | y :: ys, 0, x, h, i, hi => by
    simp at h
    subst h
    rw [List.flatMap_cons, Nat.zero_mul, Nat.zero_add, List.getElem?_append_left (by rw [hf]; exact hi)]
  | y :: ys, j + 1, x, h, i, hi => by
    simp at h
    rw [List.flatMap_cons, List.getElem?_append_right (by rw [hf, Nat.add_mul]; omega), hf, ← flat_get hf h i hi]
    congr 1
    rw [Nat.add_mul]
    omega
theorem flat_len {α β : Type} {f : α → List β} {k : Nat} (hf : ∀ x, (f x).length = k) (xs : List α) : (xs.flatMap f).length = xs.length * k := by
  induction xs with
  | nil => simp
  | cons y ys ih => rw [List.flatMap_cons, List.length_append, hf, ih, List.length_cons, Nat.add_mul]; omega
/-- Many parts. -/
def stars : List HP → HP
  | [] => emp
  | A :: L => A * stars L
theorem stars_snoc (L : List HP) (A : HP) : stars (L ++ [A]) = A * stars L := by
  induction L with
  | nil => rfl
  | cons B L ih => show B * stars (L ++ [A]) = A * (B * stars L); rw [ih, star_left]
theorem stars_pick {L : List HP} {A : HP} (h : A ∈ L) : ∃ R, stars L = A * R := by
  induction L with
  | nil => cases h
  | cons B L ih =>
    rcases List.mem_cons.1 h with rfl | h
    · exact ⟨_, rfl⟩
    · obtain ⟨R, e⟩ := ih h
      exact ⟨B * R, by show B * stars L = _; rw [e, star_left]⟩
theorem stars_mid (L M : List HP) (A : HP) : stars (L ++ A :: M) = A * stars (L ++ M) := by
  induction L with
  | nil => rfl
  | cons B L ih => show B * stars (L ++ A :: M) = A * (B * stars (L ++ M)); rw [ih, star_left]
theorem Row.addr {w : World} {e size n c : Nat} {A : Option Addr} {cs : List Value} {F : HP} (H : SepI w (Row e size (.slice A n c) n cs * F)) (h : 0 < n) : ∃ g, A = some ⟨g, 0, none⟩ := by
  rcases Row.open H with ⟨_, h0, _⟩ | ⟨g, cap, cur, hv, _⟩
  · omega
  · injection hv with hA; exact ⟨g, hA⟩
theorem made_eq (z : Array Value) (n : Nat) (hz : 0 < z.size) : (madeCells z (n * z.size)).toList = (List.replicate n z.toList).flatten := by
  apply List.ext_getElem?
  intro i
  rw [← List.flatMap_id]
  by_cases h : i < n * z.size
  · have h1 : i / z.size < n := Nat.div_lt_of_lt_mul (by rwa [Nat.mul_comm] at h)
    have h2 := Nat.mod_lt i hz
    have hd := Nat.div_add_mod i z.size
    have e2 : ((List.replicate n z.toList).flatMap id)[i]? = z.toList[i % z.size]? := by
      have hg : (List.replicate n z.toList)[i / z.size]? = some z.toList := by rw [List.getElem?_replicate, if_pos h1]
      have key : ∀ (m : Nat) (L : List (List Value)), (∀ x ∈ L, x.length = m) → ∀ (j : Nat) (x : List Value), L[j]? = some x → ∀ q, q < m → (L.flatMap id)[j * m + q]? = x[q]? := by
        intro m L
        induction L with
        | nil => intro _ j x hx; simp at hx
        | cons y ys ih =>
          intro hm j x hx q hq
          have hy := hm y (by simp)
          cases j with
          | zero =>
            simp at hx
            subst hx
            rw [List.flatMap_cons, Nat.zero_mul, Nat.zero_add, List.getElem?_append_left (by show q < y.length; omega)]
            rfl
          | succ j =>
            simp at hx
            rw [List.flatMap_cons, List.getElem?_append_right (by show y.length ≤ _; rw [hy, Nat.add_mul]; omega), ← ih (fun x hx => hm x (by simp [hx])) j x hx q hq]
            congr 1
            show (j + 1) * m + q - y.length = _
            rw [hy, Nat.add_mul]
            omega
      have := key z.size (List.replicate n z.toList) (fun x hx => by rw [(List.mem_replicate.1 hx).2, Array.length_toList]) (i / z.size) _ hg (i % z.size) h2
      rw [show i / z.size * z.size + i % z.size = i from by rw [Nat.mul_comm]; omega] at this
      exact this
    rw [e2]
    simp only [madeCells, Array.toList_map, Array.toList_range, List.getElem?_map, List.getElem?_range h, Option.map_some, Array.getElem?_toList]
    rw [getElem!_pos z _ h2, Array.getElem?_eq_getElem h2]
  · rw [List.getElem?_eq_none (by simp [madeCells]; omega), List.getElem?_eq_none]
    rw [List.length_flatMap]
    simp
    omega
section
variable {P : Program} {ops : Array Oper} {rest : List Oper} {o : Oper} {a : Act} {Q : Exit → Act → World → Prop}
/-- append(v, x): x one element, boxed in block gx (or several). -/
theorem ev_append {w : World} {S F : HP} {e size n : Nat} {v : Value} {cs : List Value} [H : SepI w S] (hgd : o.guard = none) (s x : Operand) (t : TypeId)
    (ho : o.op = .call { callee := .builtin .append, args := #[s, x], argTypes := #[t, t] }) (hs : a.eval s = v) [p : PickR S e size v n cs F]
    (bytes : Nat) (z : Value) (ht : P.underlying t = some (.slice e)) (hinfo : (P.info? e).map (fun i => (i.zero, i.size, i.bytes)) = some (some z, size, bytes)) (hz : z.cells.size = size) (hsz : 0 < size) (hb0 : 0 < bytes)
    (gx m c : Nat) (hx : a.eval x = .slice (some ⟨gx, 0, none⟩) m c) {news : Array Value} {te : TypeId} {fz : Nat × Nat} [hb : HasBlk S gx (.cells news te fz)] (hl : news.size = m * size) (h1 : ∀ u ∈ news.toList, u.oneCell' = true)
    (hbytes : (n + m) * bytes ≤ 140737488355328)
    (k : ∀ v1 w1, SepI w1 (Row e size v1 (n + m) (cs ++ news.toList) * F) → (∀ u [ExtI u w], ExtI u w1) → wpList P ops Q rest (a.put o.dst v1) w1) : wpList P ops Q (o :: rest) a w := by
  obtain ⟨i0, hi, hzz⟩ := Option.map_eq_some_iff.1 hinfo
  simp only [Prod.mk.injEq] at hzz
  obtain ⟨hz0, hz1, hz2⟩ := hzz
  have HR := H.pickR p
  have hlen : n + m ≤ 140737488355328 := Nat.le_trans (Nat.le_mul_of_pos_right _ hb0) hbytes
  refine wpList_append_own_at w hgd s x t ho 0 e i0 z size bytes ht hi hz0 hz1 hz2 hz hsz v n cs hs (Row.own HR) ⟨gx, 0, none⟩ m c news.toList hx (by rw [Array.length_toList, hl])
    (fun j u hj => ?_) h1 (by simp only [maxLen]; omega) hbytes (Nat.zero_le _) ?_
  · have hc := @cell_blk w S gx j news te fz H hb
    rw [Array.getElem?_toList] at hj
    rw [show ((⟨gx, 0, none⟩ : Addr).add j) = ⟨gx, j, none⟩ from by unfold Addr.add; split <;> simp_all, hc, hj]
  · intro v1 w1 hown hg _ hat
    refine k v1 w1 ?_ (fun u i => i.trans ⟨hg.os, hg.tape, hg.output, hg.size⟩)
    refine HR.turn fun h hh hk => ?_
    obtain ⟨hl1, ho1⟩ := hown
    obtain ⟨hl2, ho2⟩ := hh
    have frame : ∀ g, g < w.heap.size → h g = Option.none → w1.heap[g]? = w.heap[g]? := fun g hlt hn => hg.block g hlt (by
      rcases ho2 with ⟨rfl, _⟩ | ⟨g2, cap2, cur2, rfl, hg2, _⟩
      · simp [Value.ownBlock]
      · simp only [Value.ownBlock, ne_eq, Option.some.injEq]
        rintro rfl
        rw [hg2] at hn
        cases hn)
    rcases ho1 with ⟨rfl, hn0⟩ | ⟨g1, cap1, cur1, rfl, _, hg1, q1, q2, q3, q4⟩
    · exact ⟨fun _ => Option.none, ⟨hl1, .inl ⟨rfl, hn0⟩⟩, fun _ _ q => by simp at q, fun _ q => absurd rfl q, frame⟩
    · refine ⟨fun g => if g = g1 then some (.cells cur1 e (0, 0)) else Option.none, ⟨hl1, .inr ⟨g1, cap1, cur1, rfl, by simp, q1, q2, q3, q4⟩⟩, fun g u q => ?_, fun g q => ?_, frame⟩
      · by_cases eg : g = g1
        · subst eg; simp at q; subst q; exact hg1
        · simp [eg] at q
      · by_cases eg : g = g1
        · subst eg
          rcases hat with hat | hat
          · left
            rcases ho2 with ⟨rfl, _⟩ | ⟨g2, cap2, cur2, rfl, hg2, _⟩
            · simp [Value.ownBlock] at hat
            · simp only [Value.ownBlock, Option.some.injEq] at hat
              rw [hat, hg2]; simp
          · right
            simp only [Value.ownBlock, Option.some.injEq] at hat
            omega
        · simp [eg] at q
/-- make([]T, n). -/
theorem ev_make {w : World} {S : HP} [H : SepI w S] (hgd : o.guard = none) (t : TypeId) (x y : Operand) (ho : o.op = .makeSlice t x y) (n : Nat) (hx : a.eval x = .int .i64 n) (hy : a.eval y = .int .i64 n)
    (e size bytes : Nat) (z : Value) (ht : P.underlying t = some (.slice e)) (hinfo : (P.info? e).map (fun i => (i.zero, i.size, i.bytes)) = some (some z, size, bytes)) (hz : z.cells.size = size) (hsz : 0 < size) (hb0 : 0 < bytes) (hl : bytes * n ≤ 281474976710656)
    (k : ∀ g w1, SepI w1 (Row e size (.slice (some ⟨g, 0, none⟩) n n) n (List.replicate n z.cells.toList).flatten * S) → (∀ u [ExtI u w], ExtI u w1) → wpList P ops Q rest (a.put o.dst (.slice (some ⟨g, 0, none⟩) n n)) w1) : wpList P ops Q (o :: rest) a w := by
  obtain ⟨i0, hi, hzz⟩ := Option.map_eq_some_iff.1 hinfo
  simp only [Prod.mk.injEq] at hzz
  obtain ⟨hz0, hz1, hz2⟩ := hzz
  have hn : n ≤ 281474976710656 := Nat.le_trans (Nat.le_mul_of_pos_left _ hb0) hl
  refine wpList_make_full w hgd x y t ho 0 e i0 z size ht hi hz0 hz1 .i64 .i64 n n n hx hy rfl rfl (by rw [hz2]; exact hl) (by simp only [maxLen]; omega) (Nat.zero_le _) ?_
  intro w1 hown hg
  refine k w.heap.size w1 ?_ (fun u i => i.trans ⟨hg.os, hg.tape, hg.output, hg.size⟩)
  rw [← hz, made_eq _ _ (by rw [hz]; exact hsz), hz] at hown
  obtain ⟨hl1, ho1⟩ := hown
  rcases ho1 with ⟨hv, _⟩ | ⟨g1, cap1, cur1, hv, _, hg1, q1, q2, q3, q4⟩
  · cases hv
  · injection hv with hA _ hc
    injection hA with hA
    injection hA with hA
    subst hA; subst hc
    have H1 : SepI w1 (pts w.heap.size (.cells cur1 e (0, 0)) * S) := SepI.new H (Nat.le_refl _) hg1 (fun g hlt => hg.block g hlt (by simp))
    have H2 := Row.close (size := size) H1 q1 q2 q3
    rw [q4] at H2
    exact H2
end
end Go.Proofs.Ytobikkdnalnllaa.SL
namespace Go.Proofs.Ytobikkdnalnllaa
open Go.RowKit SL
attribute [local go_sem] cell_blk frozen_blk lt_blk cell_at frozen_row lt_row
set_option linter.unusedVariables false
set_option linter.unusedSimpArgs false
/-- A step, a body, as they lie in memory. -/
structure St where
  k : Int
  a : Int
  b : Int
  deriving DecidableEq
def cSt (s : St) : List Value := [.int .i64 s.k, .int .i64 s.a, .int .i64 s.b]
def cSts (l : List St) : List Value := l.flatMap cSt
structure Bd where
  p : Option Addr
  c : Nat
  l : List St
def cBd (b : Bd) : Value := .slice b.p b.l.length b.c
def cBds (l : List Bd) : List Value := l.map cBd
theorem cSts_len (l : List St) : (cSts l).length = l.length * 3 := flat_len (f := cSt) (fun _ => rfl) l
theorem cBds_len (l : List Bd) : (cBds l).length = l.length := by simp [cBds]
theorem cBds_get {l : List Bd} {k : Nat} {x : Bd} (h : l[k]? = some x) : (cBds l)[k]? = some (.slice x.p x.l.length x.c) := by simp [cBds, h, cBd]
theorem cSts_get {l : List St} {k : Nat} {x : St} (h : l[k]? = some x) : (cSts l)[k * 3]? = some (.int .i64 x.k) ∧ (cSts l)[k * 3 + 1]? = some (.int .i64 x.a) ∧ (cSts l)[k * 3 + 2]? = some (.int .i64 x.b) :=
  ⟨flat_get (f := cSt) (k := 3) (fun _ => rfl) h 0 (by omega), flat_get (f := cSt) (k := 3) (fun _ => rfl) h 1 (by omega), flat_get (f := cSt) (k := 3) (fun _ => rfl) h 2 (by omega)⟩
theorem szStepS (A : Option Addr) (c n : Nat) (left : Int) (w : World) (hn : n ≤ maxLen) (h0 : 0 ≤ left) (h1 : left ≤ 1048576) :
    Calls Try.prog 87 #[.slice A n c, .int .i64 left] w fun e w' => e = .returned (.int .i64 (if left < n then -1 else left - n)) ∧ w' = w := by
  unfold maxLen at hn
  by_cases h : left < n
  · rw [if_pos h]
    go_enter Try.func87, Try.ntmps87
    go_wp2
    go_ret
    exact ⟨rfl, rfl⟩
  · rw [if_neg h]
    go_enter Try.func87, Try.ntmps87
    go_wp2
    go_ret
    exact ⟨rfl, rfl⟩
/-- What the size's answer tells. -/
def SzOk (left : Int) (bs : List Bd) (r : Int) : Prop := r = -1 ∨ (0 ≤ r ∧ r + bs.length + ((bs.map fun x => x.l.length).sum : Nat) = left)
def SzPost (left : Int) (bs : List Bd) (w : World) (e : Ending) (w' : World) : Prop := ∃ r, e = .returned (.int .i64 r) ∧ SzOk left bs r ∧ w' = w
theorem sum_take_succ {bs : List Bd} {k : Nat} {x : Bd} (h : bs[k]? = some x) : ((bs.take (k + 1)).map fun x => x.l.length).sum = ((bs.take k).map fun x => x.l.length).sum + x.l.length := by
  rw [take_succ_eq h]; simp
set_option maxHeartbeats 1000000 in
theorem szStepSS (S : HP) (w : World) [H : SepI w S] (A : Option Addr) (c : Nat) (bs : List Bd) [r : Rd S A (cBds bs)] (hb : ∀ x ∈ bs, x.l.length ≤ maxLen) (hn : bs.length ≤ maxLen) (left : Int) (h0 : 0 ≤ left) (h1 : left ≤ 1048576) :
    Calls Try.prog 53 #[.slice A bs.length c, .int .i64 left] w (SzPost left bs w) := by
  obtain ⟨n, hn'⟩ : ∃ n, n = bs.length := ⟨_, rfl⟩
  have HN := Hd.mk hn'
  have HB := Hd.mk hb
  unfold maxLen at hn
  rw [← hn'] at hn ⊢
  clear hb hn'
  by_cases hl : left < n
  · go_enter Try.func53, Try.ntmps53
    go_wp2
    go_ret
    exact ⟨_, rfl, .inl rfl, rfl⟩
  · go_enter Try.func53, Try.ntmps53
    go_wp2
    go_loop [1, 5] (fun l i => ∃ (k : Nat) (q : Int), k ≤ n ∧ i = .int .i64 k ∧ l = .int .i64 q ∧ 0 ≤ q ∧ q ≤ 1048576 ∧ Hd (q + n + ((((bs.take k).map fun x => x.l.length).sum : Nat) : Int) = left)) (fun _ i => n - (intOf i).toNat)
    case atStart => exact ⟨0, _, Nat.zero_le _, rfl, rfl, by omega, by omega, ⟨by simp⟩⟩
    case round =>
      obtain ⟨k, q, hk, rfl, rfl, hq0, hq1, HQ⟩ := hrel
      by_cases hlt : k < n
      · obtain ⟨x, hx⟩ := get_ex (xs := bs) (k := k) (by rw [← HN.out]; exact hlt)
        obtain ⟨b, off, rfl⟩ := r.addr H (j := k) (by rw [cBds_len, ← HN.out]; exact hlt)
        have c1 := r.cell (cBds_get hx)
        have hxm := HB.out x (List.mem_of_getElem? hx)
        have HX := Hd.mk hx
        clear hx
        obtain ⟨m, hm⟩ : ∃ m, m = x.l.length := ⟨_, rfl⟩
        rw [← hm] at c1 hxm
        have HM := Hd.mk hm
        clear hm
        by_cases hqm : q < m
        · go_wp2_with (go_at_call 87; refine (szStepS _ _ _ _ _ hxm hq0 hq1).mono ?_; rintro e w' ⟨rfl, rfl⟩; simp only [if_pos hqm])
          go_ret
          exact ⟨_, rfl, .inl rfl, rfl⟩
        · go_wp2_with (go_at_call 87; refine (szStepS _ _ _ _ _ hxm hq0 hq1).mono ?_; rintro e w' ⟨rfl, rfl⟩; simp only [if_neg hqm])
          go_round
          case rel => exact ⟨k + 1, q - m, by omega, by go_num, rfl, by omega, by omega, ⟨by have := HQ.out; rw [sum_take_succ HX.out, ← HM.out]; omega⟩⟩
          case measure => simp [intOf]; omega
      · have : k = n := by omega
        subst this
        go_wp2
        go_ret
        exact ⟨_, rfl, .inr ⟨hq0, by have := HQ.out; rw [HN.out, List.take_length] at this; exact this⟩, rfl⟩
theorem szProgram (S : HP) (w : World) [H : SepI w S] (A : Option Addr) (c : Nat) (bs : List Bd) [r : Rd S A (cBds bs)] (hb : ∀ x ∈ bs, x.l.length ≤ maxLen) (hn : bs.length ≤ maxLen) :
    Calls Try.prog 15 #[.agg #[.slice A bs.length c], .int .i64 1048576] w fun e w' => ∃ r, e = .returned (.int .i64 r) ∧ SzOk 1048576 bs r ∧ Post w S w' := by
  go_enter Try.func15, Try.ntmps15
  go_wp2_with (go_at_call 53; refine (szStepSS _ _ _ _ bs hb hn 1048576 (by omega) (by omega)).mono ?_; rintro e w' ⟨r, rfl, hr, rfl⟩; rcases hr with rfl | ⟨hr0, hr⟩)
  all_goals go_ret
  · exact ⟨_, rfl, .inl rfl, Post.mk' (Ent.sep (S := _) inferInstance inferInstance) inferInstance⟩
  · exact ⟨_, rfl, .inr ⟨hr0, hr⟩, Post.mk' (Ent.sep (S := _) inferInstance inferInstance) inferInstance⟩
theorem info_step : (Try.prog.info? 141).map (fun i => (i.zero, i.size, i.bytes)) = some (some (.agg #[.int .i64 0, .int .i64 0, .int .i64 0]), 3, 24) := by kernel_rfl
theorem info_body : (Try.prog.info? 127).map (fun i => (i.zero, i.size, i.bytes)) = some (some (.slice none 0 0), 1, 24) := by kernel_rfl
theorem toStep (S : HP) (w : World) [H : SepI w S] (s : St) :
    Calls Try.prog 104 #[.agg #[.int .i64 s.k, .int .i64 s.a, .int .i64 s.b]] w fun e w' => e = .returned (.agg #[.int .i64 s.k, .int .i64 s.a, .int .i64 s.b]) ∧ Post w S w' := by
  go_enter Try.func104, Try.ntmps104
  go_wp2
  refine bodyPost_ret (v := .agg #[.int .i64 s.k, .int .i64 s.a, .int .i64 s.b]) (by simp [results, Try.results104, go_sem]) rfl ?_
  exact ⟨rfl, Post.mk' (Ent.sep (S := _) inferInstance inferInstance) inferInstance⟩
def zSt : St := ⟨0, 0, 0⟩
theorem cSts_append (l m : List St) : cSts (l ++ m) = cSts l ++ cSts m := by simp [cSts]
theorem cSts_zeros (n : Nat) : (List.replicate n (Value.agg #[.int .i64 0, .int .i64 0, .int .i64 0]).cells.toList).flatten = cSts (List.replicate n zSt) := by
  induction n with
  | zero => rfl
  | succ n ih => rw [List.replicate_succ, List.replicate_succ, List.flatten_cons, ih]; rfl
theorem cSts_put {l : List St} {n k : Nat} {s : St} (h : l[k]? = some s) (hk : k < n) :
    (((cSts (l.take k ++ List.replicate (n - k) zSt)).set (k * 3) (.int .i64 s.k)).set (k * 3 + 1) (.int .i64 s.a)).set (k * 3 + 2) (.int .i64 s.b) = cSts (l.take (k + 1) ++ List.replicate (n - (k + 1)) zSt) := by
  have hlt : k < l.length := (List.getElem?_eq_some_iff.1 h).1
  have hl : (cSts (l.take k)).length = k * 3 := by rw [cSts_len, List.length_take, Nat.min_eq_left (Nat.le_of_lt hlt)]
  rw [take_succ_eq h, cSts_append, cSts_append, cSts_append, show n - k = (n - (k + 1)) + 1 from by omega, List.replicate_succ]
  rw [List.set_append_right _ _ (by omega), List.set_append_right _ _ (by omega), List.set_append_right _ _ (by omega), hl, Nat.sub_self, Nat.add_sub_cancel_left, Nat.add_sub_cancel_left, List.append_assoc]
  rfl
set_option maxHeartbeats 1000000 in
theorem toStepS (S : HP) (w : World) [H : SepI w S] (A : Option Addr) (c : Nat) (l : List St) [r : Rd S A (cSts l)] (hn : l.length ≤ 1048576) :
    Calls Try.prog 91 #[.slice A l.length c] w fun e w' => ∃ g, e = .returned (.slice (some ⟨g, 0, none⟩) l.length l.length) ∧
      Post w (Row 141 3 (.slice (some ⟨g, 0, none⟩) l.length l.length) l.length (cSts l) * S) w' := by
  obtain ⟨n, hn'⟩ : ∃ n, n = l.length := ⟨_, rfl⟩
  have HN := Hd.mk hn'
  rw [← hn'] at hn ⊢
  clear hn'
  go_enter Try.func91, Try.ntmps91
  go_wp2_with (refine ev_make rfl 127 _ _ rfl n rfl rfl 141 3 24 _ Try.underlying127 info_step rfl (by decide) (by decide) (by omega) ?_; rw [cSts_zeros]; intro g w1 HS1 HE1)
  go_loopw [4] (fun i wr => ∃ k : Nat, k ≤ n ∧ i = .int .i64 k ∧ ExtI w wr ∧
    SepI wr (Row 141 3 (.slice (some ⟨g, 0, none⟩) n n) n (cSts (l.take k ++ List.replicate (n - k) zSt)) * S)) (fun i _ => n - (intOf i).toNat)
  case atStart => exact ⟨0, Nat.zero_le _, rfl, inferInstance, by simpa using HS1⟩
  case round =>
    obtain ⟨k, hk, rfl, HX, HS⟩ := hrel
    by_cases hlt : k < n
    · obtain ⟨x, hx⟩ := get_ex (xs := l) (k := k) (by rw [← HN.out]; exact hlt)
      obtain ⟨b, off, rfl⟩ := r.addr H (j := k) (by rw [cSts_len, ← HN.out]; omega)
      have c1 := r.cell (cSts_get hx).1
      have c2 := r.cell (cSts_get hx).2.1
      have c3 := r.cell (cSts_get hx).2.2
      have hz : (l.take k ++ List.replicate (n - k) zSt)[k]? = some zSt := by
        rw [List.getElem?_append_right (by rw [List.length_take, Nat.min_eq_left (by have := HN.out; omega)]; omega), List.getElem?_replicate, if_pos (by rw [List.length_take, Nat.min_eq_left (by have := HN.out; omega)]; omega)]
      have d1 : CellAt _ g _ _ := Row.cellAt (e := 141) (size := 3) (g := g) (n := n) (c := n) (F := S) (cSts_get hz).1
      have d2 : CellAt _ g _ _ := Row.cellAt (e := 141) (size := 3) (g := g) (n := n) (c := n) (F := S) (cSts_get hz).2.1
      have d3 : CellAt _ g _ _ := Row.cellAt (e := 141) (size := 3) (g := g) (n := n) (c := n) (F := S) (cSts_get hz).2.2
      have HG := Hd.mk hx
      clear hx hz
      go_wp2_with (go_at_call 104; refine (toStep _ _ x).mono ?_; rintro e w' ⟨rfl, HP'⟩; have HS2 := HP'.sep; have HE2 := HP'.ext; clear HP')
      go_roundw
      case rel => exact ⟨k + 1, by omega, by go_num, inferInstance, SepI.cast inferInstance (by rw [cSts_put HG.out hlt])⟩
      case measure => simp [intOf]; omega
    · have : k = n := by omega
      subst this
      go_wp2
      go_ret
      exact ⟨g, rfl, Post.mk' (by rw [Nat.sub_self, HN.out, List.take_length, List.replicate_zero, List.append_nil, ← HN.out] at HS; exact HS) HX⟩
/-- A body, a program's bodies, owned. -/
def OwnB (b : Bd) : HP := Row 141 3 (.slice b.p b.l.length b.c) b.l.length (cSts b.l)
def OwnP (v : Value) (bs : List Bd) : HP := Row 127 1 v bs.length (cBds bs) * stars (bs.map OwnB)
def zBd : Bd := ⟨none, 0, []⟩
theorem cBds_append (l m : List Bd) : cBds (l ++ m) = cBds l ++ cBds m := by simp [cBds]
theorem cBds_zeros (n : Nat) : (List.replicate n (Value.slice none 0 0).cells.toList).flatten = cBds (List.replicate n zBd) := by
  induction n with
  | zero => rfl
  | succ n ih => rw [List.replicate_succ, List.replicate_succ, List.flatten_cons, ih]; rfl
theorem cBds_put (d : List Bd) (n : Nat) (x : Bd) (h : d.length < n) : (cBds (d ++ List.replicate (n - d.length) zBd)).set d.length (cBd x) = cBds ((d ++ [x]) ++ List.replicate (n - (d.length + 1)) zBd) := by
  rw [cBds_append, cBds_append, cBds_append, show n - d.length = (n - (d.length + 1)) + 1 from by omega, List.replicate_succ, List.set_append_right _ _ (by rw [cBds_len]; exact Nat.le_refl _), cBds_len, Nat.sub_self, List.append_assoc]
  rfl
/-- The bodies that are read: each one's steps. -/
class Bodies (S : HP) (bs : List Bd) : Prop where
  rd : ∀ x ∈ bs, Rd S x.p (cSts x.l)
  small : ∀ x ∈ bs, x.l.length ≤ 1048576
  n : bs.length ≤ 1048576
instance (priority := low) Bodies.up (X S : HP) (bs : List Bd) [B : Bodies S bs] : Bodies (X * S) bs := ⟨fun x hx => have := B.rd x hx; inferInstance, B.small, B.n⟩
set_option maxHeartbeats 1000000 in
theorem toStepSS (S : HP) (w : World) [H : SepI w S] (A : Option Addr) (c : Nat) (bs : List Bd) [r : Rd S A (cBds bs)] [B : Bodies S bs] :
    Calls Try.prog 56 #[.slice A bs.length c] w fun e w' => ∃ g bs', e = .returned (.slice (some ⟨g, 0, none⟩) bs'.length bs'.length) ∧ bs'.map (·.l) = bs.map (·.l) ∧
      Post w (OwnP (.slice (some ⟨g, 0, none⟩) bs'.length bs'.length) bs' * S) w' := by
  have hn := B.n
  obtain ⟨n, hn'⟩ : ∃ n, n = bs.length := ⟨_, rfl⟩
  have HN := Hd.mk hn'
  have HB := Hd.mk B
  rw [← hn'] at hn ⊢
  clear hn' B
  go_enter Try.func56, Try.ntmps56
  go_wp2_with (refine ev_make rfl 29 _ _ rfl n rfl rfl 127 1 24 _ Try.underlying29 info_body rfl (by decide) (by decide) (by omega) ?_; rw [cBds_zeros]; intro g w1 HS1 HE1)
  go_loopw [4] (fun i wr => ∃ (k : Nat) (d : List Bd), k ≤ n ∧ i = .int .i64 k ∧ ExtI w wr ∧ Hd (d.length = k) ∧ Hd (d.map (·.l) = (bs.take k).map (·.l)) ∧
    SepI wr (Row 127 1 (.slice (some ⟨g, 0, none⟩) n n) n (cBds (d ++ List.replicate (n - k) zBd)) * (stars (d.map OwnB) * S))) (fun i _ => n - (intOf i).toNat)
  case atStart => exact ⟨0, [], Nat.zero_le _, rfl, inferInstance, ⟨rfl⟩, ⟨rfl⟩, Ent.sep (S := _) (T := Row 127 1 (.slice (some ⟨g, 0, none⟩) n n) n (cBds (List.replicate n zBd)) * (emp * S)) ⟨fun h a => ⟨h, by
    obtain ⟨h1, h2, a1, a2, dd, ee⟩ := a
    exact ⟨h1, h2, a1, ⟨fun _ => none, h2, trivial, a2, fun _ => .inl rfl, fun _ => rfl⟩, dd, ee⟩, fun _ => .inr rfl⟩⟩ HS1⟩
  case round =>
    obtain ⟨k, d, hk, rfl, HX, HD, HL, HS⟩ := hrel
    by_cases hlt : k < n
    · obtain ⟨x, hx⟩ := get_ex (xs := bs) (k := k) (by rw [← HN.out]; exact hlt)
      obtain ⟨b, off, rfl⟩ := r.addr H (j := k) (by rw [cBds_len, ← HN.out]; omega)
      have c1 := r.cell (cBds_get hx)
      have rx := HB.out.rd x (List.mem_of_getElem? hx)
      have sx := HB.out.small x (List.mem_of_getElem? hx)
      have hz : (d ++ List.replicate (n - k) zBd)[k]? = some zBd := by
        rw [List.getElem?_append_right (by rw [HD.out]; exact Nat.le_refl _), List.getElem?_replicate, if_pos (by rw [HD.out]; omega)]
      have d1 : CellAt _ g _ _ := Row.cellAt (e := 127) (size := 1) (g := g) (n := n) (c := n) (F := stars (d.map OwnB) * S) (cBds_get hz)
      have HG := Hd.mk hx
      clear hx hz
      go_wp2_with (go_at_call 91; refine (toStepS _ _ _ _ x.l sx).mono ?_; rintro e w' ⟨g', rfl, HP'⟩; have HS2 := HP'.sep; have HE2 := HP'.ext; clear HP')
      go_roundw
      case rel => exact ⟨k + 1, d ++ [⟨some ⟨g', 0, none⟩, x.l.length, x.l⟩], by omega, by go_num, inferInstance, ⟨by simp [HD.out]⟩, ⟨by rw [take_succ_eq HG.out, List.map_append, List.map_append, HL.out]; rfl⟩, SepI.cast inferInstance (by
        have := cBds_put d n ⟨some ⟨g', 0, none⟩, x.l.length, x.l⟩ (by rw [HD.out]; exact hlt)
        rw [HD.out] at this
        rw [← this, List.map_append, List.map_cons, List.map_nil, stars_snoc, star_assoc]
        exact star_left _ _ _)⟩
      case measure => simp [intOf]; omega
    · have : k = n := by omega
      subst this
      go_wp2
      go_ret
      refine ⟨g, d, (by rw [HD.out]; rfl), by rw [HL.out, HN.out, List.take_length], Post.mk' (SepI.cast HS ?_) HX⟩
      rw [Nat.sub_self, List.replicate_zero, List.append_nil, HD.out, ← star_assoc]
      unfold OwnP
      rw [HD.out]
theorem toProgram (S : HP) (w : World) [H : SepI w S] (A : Option Addr) (c : Nat) (bs : List Bd) [r : Rd S A (cBds bs)] [B : Bodies S bs] :
    Calls Try.prog 17 #[.agg #[.slice A bs.length c]] w fun e w' => ∃ g bs', e = .returned (.agg #[.slice (some ⟨g, 0, none⟩) bs'.length bs'.length]) ∧ bs'.map (·.l) = bs.map (·.l) ∧
      Post w (OwnP (.slice (some ⟨g, 0, none⟩) bs'.length bs'.length) bs' * S) w' := by
  have B' : ∀ X, Bodies (X * S) bs := fun X => ⟨fun x hx => have := B.rd x hx; inferInstance, B.small, B.n⟩
  go_enter Try.func17, Try.ntmps17
  go_wp2_with (go_at_call 56; refine (toStepSS _ _ _ _ bs).mono ?_; rintro e w' ⟨g, bs', rfl, hl, HP'⟩; have HS2 := HP'.sep; have HE2 := HP'.ext; clear HP')
  refine bodyPost_ret (v := .agg #[.slice (some ⟨g, 0, none⟩) bs'.length bs'.length]) (by simp [results, Try.results17, go_sem]) rfl ?_
  exact ⟨g, bs', rfl, hl, Post.mk' (Ent.sep (S := _) inferInstance inferInstance) inferInstance⟩
end Go.Proofs.Ytobikkdnalnllaa
namespace Go.Proofs.Ytobikkdnalnllaa
open Go.RowKit SL
attribute [local go_sem] cell_blk frozen_blk lt_blk cell_at frozen_row lt_row
set_option linter.unusedVariables false
set_option linter.unusedSimpArgs false
theorem eqStep (S : HP) (w : World) [H : SepI w S] (s t : St) :
    Calls Try.prog 107 #[.agg #[.int .i64 s.k, .int .i64 s.a, .int .i64 s.b], .agg #[.int .i64 t.k, .int .i64 t.a, .int .i64 t.b]] w fun e w' => e = .returned (.bool (decide (s = t))) ∧ Post w S w' := by
  obtain ⟨k, a, b⟩ := s
  obtain ⟨k', a', b'⟩ := t
  simp only
  by_cases h1 : k = k'
  · subst h1
    by_cases h2 : a = a'
    · subst h2
      by_cases h3 : b = b'
      · subst h3
        go_enter Try.func107, Try.ntmps107
        go_wp2
        go_ret
        exact ⟨ret_b (by simp), Post.mk' (Ent.sep (S := _) inferInstance inferInstance) inferInstance⟩
      · have e : decide (St.mk k a b = St.mk k a b') = false := decide_eq_false fun h => h3 (by injection h)
        rw [e]
        clear e
        go_enter Try.func107, Try.ntmps107
        go_wp2
        go_ret
        exact ⟨rfl, Post.mk' (Ent.sep (S := _) inferInstance inferInstance) inferInstance⟩
    · have e : decide (St.mk k a b = St.mk k a' b') = false := decide_eq_false fun h => h2 (by injection h)
      rw [e]
      clear e
      go_enter Try.func107, Try.ntmps107
      go_wp2
      go_ret
      exact ⟨rfl, Post.mk' (Ent.sep (S := _) inferInstance inferInstance) inferInstance⟩
  · have e : decide (St.mk k a b = St.mk k' a' b') = false := decide_eq_false fun h => h1 (by injection h)
    rw [e]
    clear e
    go_enter Try.func107, Try.ntmps107
    go_wp2
    go_ret
    exact ⟨rfl, Post.mk' (Ent.sep (S := _) inferInstance inferInstance) inferInstance⟩
set_option maxRecDepth 100000 in
set_option maxHeartbeats 1000000 in
theorem eqStepS (S : HP) (w : World) [H : SepI w S] (A B : Option Addr) (ca cb : Nat) (xs ys : List St) [ra : Rd S A (cSts xs)] [rb : Rd S B (cSts ys)] (hx : xs.length ≤ 1048576) (hy : ys.length ≤ 1048576) :
    Calls Try.prog 94 #[.slice A xs.length ca, .slice B ys.length cb] w fun e w' => e = .returned (.bool (decide (xs = ys))) ∧ Post w S w' := by
  by_cases hl : xs.length = ys.length
  · obtain ⟨n, hn⟩ : ∃ n, n = xs.length := ⟨_, rfl⟩
    have hn' : n = ys.length := hn.trans hl
    rw [← hn', ← hn]
    rw [← hn] at hx
    have HN := Hd.mk hn
    have HN' := Hd.mk hn'
    clear hl hn hn' hy
    go_enter Try.func94, Try.ntmps94
    go_wp2
    go_loopw [5] (fun i wr => ∃ k : Nat, k ≤ n ∧ i = .int .i64 k ∧ Hd (xs.take k = ys.take k) ∧ SepI wr S ∧ ExtI w wr) (fun i _ => n - (intOf i).toNat)
    case atStart => exact ⟨0, Nat.zero_le _, rfl, ⟨rfl⟩, inferInstance, inferInstance⟩
    case round =>
      obtain ⟨k, hk, rfl, HT, HS, HE⟩ := hrel
      by_cases hlt : k < n
      · obtain ⟨x, hx'⟩ := get_ex (xs := xs) (k := k) (by rw [← HN.out]; exact hlt)
        obtain ⟨y, hy'⟩ := get_ex (xs := ys) (k := k) (by rw [← HN'.out]; exact hlt)
        obtain ⟨b, off, rfl⟩ := ra.addr H (j := k) (by rw [cSts_len, ← HN.out]; omega)
        obtain ⟨b', off', rfl⟩ := rb.addr H (j := k) (by rw [cSts_len, ← HN'.out]; omega)
        have c1 := ra.cell (cSts_get hx').1
        have c2 := ra.cell (cSts_get hx').2.1
        have c3 := ra.cell (cSts_get hx').2.2
        have c4 := rb.cell (cSts_get hy').1
        have c5 := rb.cell (cSts_get hy').2.1
        have c6 := rb.cell (cSts_get hy').2.2
        have HX := Hd.mk hx'
        have HY := Hd.mk hy'
        clear hx' hy'
        by_cases hxy : x = y
        · have HXY := Hd.mk hxy
          clear hxy
          go_wp2
          go_still_tail 8, (by kernel_rfl)
          change wpList _ _ _ _ _ wr.drew
          go_wp2_with (go_at_call 107; refine (eqStep _ _ x y).mono ?_; rintro e w' ⟨rfl, HP'⟩; rw [decide_eq_true HXY.out]; have HS2 := HP'.sep; have HE2 := HP'.ext; clear HP')
          go_roundw
          case rel => exact ⟨k + 1, by omega, by go_num, ⟨by rw [take_succ_eq HX.out, take_succ_eq HY.out, HT.out, HXY.out]⟩, inferInstance, inferInstance⟩
          case measure => simp [intOf]; omega
        · have HXY := Hd.mk hxy
          clear hxy
          go_wp2
          go_still_tail 8, (by kernel_rfl)
          change wpList _ _ _ _ _ wr.drew
          go_wp2_with (go_at_call 107; refine (eqStep _ _ x y).mono ?_; rintro e w' ⟨rfl, HP'⟩; rw [decide_eq_false HXY.out]; have HS2 := HP'.sep; have HE2 := HP'.ext; clear HP')
          go_ret
          exact ⟨ret_b (decide_eq_false (ne_of_get HX.out HY.out HXY.out)).symm, Post.mk' inferInstance inferInstance⟩
      · have : k = n := by omega
        subst this
        go_wp2
        go_ret
        exact ⟨ret_b (decide_eq_true (by have := HT.out; rwa [HN.out, List.take_length, ← HN.out, HN'.out, List.take_length] at this)).symm, Post.mk' inferInstance inferInstance⟩
  · go_enter Try.func94, Try.ntmps94
    go_wp2
    go_ret
    exact ⟨ret_b (decide_eq_false (fun h => hl (by rw [h]))).symm, Post.mk' inferInstance inferInstance⟩
theorem map_take_ne {bs ds : List Bd} {k : Nat} {x y : Bd} (h : bs[k]? = some x) (h' : ds[k]? = some y) (hn : x.l ≠ y.l) : bs.map (·.l) ≠ ds.map (·.l) :=
  ne_of_get (k := k) (x := x.l) (y := y.l) (by simp [h]) (by simp [h']) hn
set_option maxRecDepth 100000 in
set_option maxHeartbeats 1000000 in
theorem eqStepSS (S : HP) (w : World) [H : SepI w S] (A B : Option Addr) (ca cb : Nat) (xs ys : List Bd) [ra : Rd S A (cBds xs)] [rb : Rd S B (cBds ys)] [Bx : Bodies S xs] [By : Bodies S ys] :
    Calls Try.prog 58 #[.slice A xs.length ca, .slice B ys.length cb] w fun e w' => e = .returned (.bool (decide (xs.map (·.l) = ys.map (·.l)))) ∧ Post w S w' := by
  have hx := Bx.n
  have hy := By.n
  have BX := Hd.mk Bx
  have BY := Hd.mk By
  clear Bx By
  by_cases hl : xs.length = ys.length
  · obtain ⟨n, hn⟩ : ∃ n, n = xs.length := ⟨_, rfl⟩
    have hn' : n = ys.length := hn.trans hl
    rw [← hn', ← hn]
    rw [← hn] at hx
    have HN := Hd.mk hn
    have HN' := Hd.mk hn'
    clear hl hn hn' hy
    go_enter Try.func58, Try.ntmps58
    go_wp2
    go_loopw [5] (fun i wr => ∃ k : Nat, k ≤ n ∧ i = .int .i64 k ∧ Hd ((xs.take k).map (·.l) = (ys.take k).map (·.l)) ∧ SepI wr S ∧ ExtI w wr) (fun i _ => n - (intOf i).toNat)
    case atStart => exact ⟨0, Nat.zero_le _, rfl, ⟨rfl⟩, inferInstance, inferInstance⟩
    case round =>
      obtain ⟨k, hk, rfl, HT, HS, HE⟩ := hrel
      by_cases hlt : k < n
      · obtain ⟨x, hx'⟩ := get_ex (xs := xs) (k := k) (by rw [← HN.out]; exact hlt)
        obtain ⟨y, hy'⟩ := get_ex (xs := ys) (k := k) (by rw [← HN'.out]; exact hlt)
        obtain ⟨b, off, rfl⟩ := ra.addr H (j := k) (by rw [cBds_len, ← HN.out]; omega)
        obtain ⟨b', off', rfl⟩ := rb.addr H (j := k) (by rw [cBds_len, ← HN'.out]; omega)
        have c1 := ra.cell (cBds_get hx')
        have c2 := rb.cell (cBds_get hy')
        have rx := BX.out.rd x (List.mem_of_getElem? hx')
        have sx := BX.out.small x (List.mem_of_getElem? hx')
        have ry := BY.out.rd y (List.mem_of_getElem? hy')
        have sy := BY.out.small y (List.mem_of_getElem? hy')
        have HX := Hd.mk hx'
        have HY := Hd.mk hy'
        clear hx' hy'
        by_cases hxy : x.l = y.l
        · have HXY := Hd.mk hxy
          clear hxy
          go_wp2
          go_still_tail 8, (by kernel_rfl)
          change wpList _ _ _ _ _ wr.drew
          go_wp2_with (go_at_call 94; refine (eqStepS _ _ _ _ _ _ x.l y.l sx sy).mono ?_; rintro e w' ⟨rfl, HP'⟩; rw [decide_eq_true HXY.out]; have HS2 := HP'.sep; have HE2 := HP'.ext; clear HP')
          go_roundw
          case rel => exact ⟨k + 1, by omega, by go_num, ⟨by rw [take_succ_eq HX.out, take_succ_eq HY.out, List.map_append, List.map_append, HT.out, List.map_cons, List.map_cons, HXY.out]⟩, inferInstance, inferInstance⟩
          case measure => simp [intOf]; omega
        · have HXY := Hd.mk hxy
          clear hxy
          go_wp2
          go_still_tail 8, (by kernel_rfl)
          change wpList _ _ _ _ _ wr.drew
          go_wp2_with (go_at_call 94; refine (eqStepS _ _ _ _ _ _ x.l y.l sx sy).mono ?_; rintro e w' ⟨rfl, HP'⟩; rw [decide_eq_false HXY.out]; have HS2 := HP'.sep; have HE2 := HP'.ext; clear HP')
          go_ret
          exact ⟨ret_b (decide_eq_false (map_take_ne HX.out HY.out HXY.out)).symm, Post.mk' inferInstance inferInstance⟩
      · have : k = n := by omega
        subst this
        go_wp2
        go_ret
        exact ⟨ret_b (decide_eq_true (by have := HT.out; rwa [HN.out, List.take_length, ← HN.out, HN'.out, List.take_length] at this)).symm, Post.mk' inferInstance inferInstance⟩
  · go_enter Try.func58, Try.ntmps58
    go_wp2
    go_ret
    exact ⟨ret_b (decide_eq_false (fun h => hl (by simpa using congrArg List.length h))).symm, Post.mk' inferInstance inferInstance⟩
theorem eqProgram (S : HP) (w : World) [H : SepI w S] (A B : Option Addr) (ca cb : Nat) (xs ys : List Bd) [ra : Rd S A (cBds xs)] [rb : Rd S B (cBds ys)] [Bx : Bodies S xs] [By : Bodies S ys] :
    Calls Try.prog 20 #[.agg #[.slice A xs.length ca], .agg #[.slice B ys.length cb]] w fun e w' => e = .returned (.bool (decide (xs.map (·.l) = ys.map (·.l)))) ∧ Post w S w' := by
  cases hd : decide (xs.map (·.l) = ys.map (·.l))
  all_goals
    have HD := Hd.mk hd
    clear hd
    go_enter Try.func20, Try.ntmps20
    go_wp2_with (go_at_call 58; refine (eqStepSS _ _ _ _ _ _ xs ys).mono ?_; rintro e w' ⟨rfl, HP'⟩; rw [HD.out]; have HS2 := HP'.sep; have HE2 := HP'.ext; clear HP')
    go_ret
    exact ⟨rfl, Post.mk' (Ent.sep (S := _) inferInstance inferInstance) inferInstance⟩
/-- The marks of steps. -/
def mkSts (k : Int) : Nat → List St
  | 0 => []
  | n + 1 => mkSts k n ++ [⟨k + 3 * n, k + 3 * n + 1, k + 3 * n + 1 + 1⟩]
theorem mkSts_len (k : Int) (n : Nat) : (mkSts k n).length = n := by
  induction n with
  | zero => rfl
  | succ n ih => simp [mkSts, ih]
theorem cSts_upd (d r : List St) (y x : St) (k : Nat) (h : d.length = k) :
    (((cSts (d ++ y :: r)).set (k * 3) (.int .i64 x.k)).set (k * 3 + 1) (.int .i64 x.a)).set (k * 3 + 2) (.int .i64 x.b) = cSts ((d ++ [x]) ++ r) := by
  have hl : (cSts d).length = k * 3 := by rw [cSts_len, h]
  rw [cSts_append, cSts_append, cSts_append]
  rw [List.set_append_right _ _ (by omega), List.set_append_right _ _ (by omega), List.set_append_right _ _ (by omega), hl, Nat.sub_self, Nat.add_sub_cancel_left, Nat.add_sub_cancel_left, List.append_assoc]
  rfl
set_option maxRecDepth 100000 in
set_option maxHeartbeats 1000000 in
theorem markStepS (F : HP) (w : World) (A : Option Addr) (c : Nat) (l : List St) [H : SepI w (Row 141 3 (.slice A l.length c) l.length (cSts l) * F)] (q : Int) (hl : l.length ≤ 1048576) (h0 : 0 ≤ q) (h1 : q ≤ 4611686018427387904) :
    Calls Try.prog 95 #[.slice A l.length c, .int .i64 q] w fun e w' => e = .returned (.int .i64 (q + 3 * l.length)) ∧
      Post w (Row 141 3 (.slice A l.length c) l.length (cSts (mkSts q l.length)) * F) w' := by
  obtain ⟨n, hn'⟩ : ∃ n, n = l.length := ⟨_, rfl⟩
  have HN := Hd.mk hn'
  rw [← hn'] at hl ⊢
  rw [← hn'] at H
  clear hn'
  go_enter Try.func95, Try.ntmps95
  go_wp2
  go_loopw [1, 5] (fun v i wr => ∃ k : Nat, k ≤ n ∧ i = .int .i64 k ∧ v = .int .i64 (q + 3 * k) ∧ ExtI w wr ∧
    SepI wr (Row 141 3 (.slice A n c) n (cSts (mkSts q k ++ l.drop k)) * F)) (fun _ i _ => n - (intOf i).toNat)
  case atStart => exact ⟨0, Nat.zero_le _, rfl, by simp, inferInstance, by simpa [mkSts] using H⟩
  case round =>
    obtain ⟨k, hk, rfl, rfl, HX, HS⟩ := hrel
    by_cases hlt : k < n
    · obtain ⟨x, hx⟩ := get_ex (xs := l) (k := k) (by rw [← HN.out]; exact hlt)
      obtain ⟨g, rfl⟩ := Row.addr HS (by omega)
      have hz : (mkSts q k ++ l.drop k)[k]? = some x := by
        rw [List.getElem?_append_right (by rw [mkSts_len]; exact Nat.le_refl _), mkSts_len, Nat.sub_self, List.getElem?_drop]; exact hx
      have d1 : CellAt _ g _ _ := Row.cellAt (e := 141) (size := 3) (g := g) (n := n) (c := c) (F := F) (cSts_get hz).1
      have d2 : CellAt _ g _ _ := Row.cellAt (e := 141) (size := 3) (g := g) (n := n) (c := c) (F := F) (cSts_get hz).2.1
      have d3 : CellAt _ g _ _ := Row.cellAt (e := 141) (size := 3) (g := g) (n := n) (c := c) (F := F) (cSts_get hz).2.2
      have hd : l.drop k = x :: l.drop (k + 1) := by
        have h1 := (List.getElem?_eq_some_iff.1 hx)
        obtain ⟨hlt', e⟩ := h1
        rw [List.drop_eq_getElem_cons hlt', e]
      have HG := Hd.mk hd
      clear hx hz hd
      go_wp2
      go_roundw
      case rel => exact ⟨k + 1, by omega, by go_num, by go_num, inferInstance, SepI.cast inferInstance (by
        rw [HG.out, show cSts (mkSts q (k + 1) ++ l.drop (k + 1)) = _ from (cSts_upd (mkSts q k) (l.drop (k + 1)) x ⟨q + 3 * k, q + 3 * k + 1, q + 3 * k + 1 + 1⟩ k (mkSts_len _ _)).symm])⟩
      case measure => simp [intOf]; omega
    · have : k = n := by omega
      subst this
      go_wp2
      go_ret
      exact ⟨rfl, Post.mk' (by rw [HN.out, List.drop_length, List.append_nil, ← HN.out] at HS; exact HS) HX⟩
theorem cBds_same {l m : List Bd} (h : l.map cBd = m.map cBd) : cBds l = cBds m := h
theorem stars_upd (d r : List Bd) (x y : Bd) : stars ((d ++ x :: r).map OwnB) = OwnB x * stars ((d ++ r).map OwnB) := by
  rw [List.map_append, List.map_cons, stars_mid, List.map_append]
set_option maxRecDepth 100000 in
set_option maxHeartbeats 1000000 in
theorem markStepSS (F : HP) (w : World) (A : Option Addr) (c : Nat) (bs : List Bd) [H : SepI w (OwnP (.slice A bs.length c) bs * F)] (hs : ∀ x ∈ bs, x.l.length ≤ 1048576) (hl : bs.length ≤ 1048576) :
    Calls Try.prog 59 #[.slice A bs.length c, .int .i64 1] w fun e w' => ∃ r : Int, e = .returned (.int .i64 r) ∧ 0 ≤ r ∧ Post w F w' := by
  obtain ⟨n, hn'⟩ : ∃ n, n = bs.length := ⟨_, rfl⟩
  have HN := Hd.mk hn'
  have HS0 := Hd.mk hs
  have H1 : SepI w (Row 127 1 (.slice A bs.length c) bs.length (cBds bs) * (stars (bs.map OwnB) * F)) := by rw [← star_assoc]; exact H
  clear H
  rw [← hn'] at hl H1 ⊢
  clear hn' hs
  go_enter Try.func59, Try.ntmps59
  go_wp2
  go_loopw [1, 5] (fun v i wr => ∃ (k : Nat) (q : Int) (d : List Bd), k ≤ n ∧ i = .int .i64 k ∧ v = .int .i64 q ∧ 0 ≤ q ∧ q ≤ 1 + 3145728 * k ∧ ExtI w wr ∧ Hd (d.length = k) ∧
    SepI wr (Row 127 1 (.slice A n c) n (cBds bs) * (stars ((d ++ bs.drop k).map OwnB) * F))) (fun _ i _ => n - (intOf i).toNat)
  case atStart => exact ⟨0, 1, [], Nat.zero_le _, rfl, rfl, by omega, by omega, inferInstance, ⟨rfl⟩, by simpa using H1⟩
  case round =>
    obtain ⟨k, q, d, hk, rfl, rfl, hq0, hq1, HX, HD, HS⟩ := hrel
    by_cases hlt : k < n
    · obtain ⟨x, hx⟩ := get_ex (xs := bs) (k := k) (by rw [← HN.out]; exact hlt)
      obtain ⟨g, rfl⟩ := Row.addr HS (by omega)
      have d1 : CellAt _ g _ _ := Row.cellAt (e := 127) (size := 1) (g := g) (n := n) (c := c) (F := stars ((d ++ bs.drop k).map OwnB) * F) (cBds_get hx)
      have sx := HS0.out x (List.mem_of_getElem? hx)
      have hd : bs.drop k = x :: bs.drop (k + 1) := by
        obtain ⟨hlt', e⟩ := List.getElem?_eq_some_iff.1 hx
        rw [List.drop_eq_getElem_cons hlt', e]
      have HG := Hd.mk hd
      clear hx
      go_wp2_with fail
      have HS4 : SepI wr (Row 141 3 (.slice x.p x.l.length x.c) x.l.length (cSts x.l) * (Row 127 1 (.slice (some ⟨g, 0, none⟩) n c) n (cBds bs) * (stars ((d ++ bs.drop (k + 1)).map OwnB) * F))) := by
        refine SepI.cast HS ?_
        rw [HG.out, stars_upd d (bs.drop (k + 1)) x x, star_assoc]
        exact star_left _ _ _
      refine (@markStepS _ _ _ _ x.l HS4 q sx hq0 (by omega)).mono ?_
      rintro e w' ⟨rfl, HP'⟩
      have HS2 := HP'.sep
      have HE2 := HP'.ext
      clear HP' HS4
      go_wp2
      go_roundw
      case rel => exact ⟨k + 1, q + 3 * x.l.length, d ++ [⟨x.p, x.c, mkSts q x.l.length⟩], by omega, by go_num, rfl, by omega, by omega, inferInstance, ⟨by simp [HD.out]⟩, SepI.cast HS2 (by
        rw [List.append_assoc, List.cons_append, List.nil_append, stars_upd d (bs.drop (k + 1)) ⟨x.p, x.c, mkSts q x.l.length⟩ x]
        unfold OwnB
        simp only [mkSts_len]
        ac_rfl)⟩
      case measure => simp [intOf]; omega
    · have : k = n := by omega
      subst this
      go_wp2
      go_ret
      exact ⟨q, rfl, hq0, Post.mk' HS.right.right HX⟩
theorem markProgram (S F : HP) (w : World) (A : Option Addr) (c : Nat) (bs : List Bd) [H : SepI w S] [p : Pick S (OwnP (.slice A bs.length c) bs) F] (hs : ∀ x ∈ bs, x.l.length ≤ 1048576) (hl : bs.length ≤ 1048576) :
    Calls Try.prog 21 #[.agg #[.slice A bs.length c], .int .i64 1] w fun e w' => ∃ r : Int, e = .returned (.int .i64 r) ∧ 0 ≤ r ∧ Post w F w' := by
  go_enter Try.func21, Try.ntmps21
  go_wp2_with (go_at_call 59; refine (@markStepSS _ _ _ _ bs (SepI.pick (S := _) inferInstance inferInstance) hs hl).mono ?_; rintro e w' ⟨r, rfl, hr, HP'⟩; have HS2 := HP'.sep; have HE2 := HP'.ext; clear HP')
  go_ret
  exact ⟨r, rfl, hr, Post.mk' (Ent.sep (S := _) inferInstance inferInstance) inferInstance⟩
end Go.Proofs.Ytobikkdnalnllaa
namespace Go.Proofs.Ytobikkdnalnllaa
open Go.RowKit SL
attribute [local go_sem] cell_blk frozen_blk lt_blk cell_at frozen_row lt_row
set_option linter.unusedVariables false
set_option linter.unusedSimpArgs false
theorem ne_of_get' {α : Type} {xs ys : List α} {k : Nat} {x y : α} (h : xs[k]? = some x) (h' : ys[k]? = some y) (hn : x ≠ y) : xs ≠ ys := by
  rintro rfl
  rw [h] at h'
  exact hn (Option.some.inj h')
set_option maxHeartbeats 1000000 in
theorem eqIntS (S : HP) (w : World) [H : SepI w S] (A B : Option Addr) (ca cb : Nat) (xs ys : List Int) [ra : Rd S A (ints xs)] [rb : Rd S B (ints ys)] (hx : xs.length ≤ maxLen) (hy : ys.length ≤ maxLen) :
    Calls Try.prog 19 #[.slice A xs.length ca, .slice B ys.length cb] w fun e w' => e = .returned (.bool (decide (xs = ys))) ∧ Post w S w' := by
  unfold maxLen at hx hy
  by_cases hl : xs.length = ys.length
  · obtain ⟨n, hn⟩ : ∃ n, n = xs.length := ⟨_, rfl⟩
    have hn' : n = ys.length := hn.trans hl
    rw [← hn', ← hn]
    rw [← hn] at hx
    have HN := Hd.mk hn
    have HN' := Hd.mk hn'
    clear hl hn hn' hy
    go_enter Try.func19, Try.ntmps19
    go_wp2
    go_loopw [5] (fun i wr => ∃ k : Nat, k ≤ n ∧ i = .int .i64 k ∧ Hd (xs.take k = ys.take k) ∧ Hd (∃ m, wr = w.drewN m)) (fun i _ => n - (intOf i).toNat)
    case atStart => exact ⟨0, Nat.zero_le _, rfl, ⟨rfl⟩, ⟨0, rfl⟩⟩
    case round =>
      obtain ⟨k, hk, rfl, HT, ⟨⟨m, rfl⟩⟩⟩ := hrel
      by_cases hlt : k < n
      · obtain ⟨x, hx'⟩ := get_ex (xs := xs) (k := k) (by rw [← HN.out]; exact hlt)
        obtain ⟨y, hy'⟩ := get_ex (xs := ys) (k := k) (by rw [← HN'.out]; exact hlt)
        obtain ⟨b, off, rfl⟩ := ra.addr H (j := k) (by rw [ints_len, ← HN.out]; exact hlt)
        obtain ⟨b', off', rfl⟩ := rb.addr H (j := k) (by rw [ints_len, ← HN'.out]; exact hlt)
        have c1 := ra.cell (ints_get hx')
        have c2 := rb.cell (ints_get hy')
        have HX := Hd.mk hx'
        have HY := Hd.mk hy'
        clear hx' hy'
        by_cases hxy : x = y
        · subst hxy
          go_wp2
          go_quiet (fail)
          go_wp2
          go_roundw
          case rel => exact ⟨k + 1, by omega, by go_num, ⟨by rw [take_succ_eq HX.out, take_succ_eq HY.out, HT.out]⟩, ⟨⟨_, rfl⟩⟩⟩
          case measure => simp [intOf]; omega
        · go_wp2
          go_quiet (fail)
          go_wp2
          go_ret
          exact ⟨ret_b (decide_eq_false (ne_of_get' HX.out HY.out hxy)).symm, Post.mk' inferInstance inferInstance⟩
      · have : k = n := by omega
        subst this
        go_wp2
        go_ret
        exact ⟨ret_b (decide_eq_true (by have := HT.out; rwa [HN.out, List.take_length, ← HN.out, HN'.out, List.take_length] at this)).symm, Post.mk' inferInstance inferInstance⟩
  · go_enter Try.func19, Try.ntmps19
    go_wp2
    go_ret
    exact ⟨ret_b (decide_eq_false (fun h => hl (by rw [h]))).symm, Post.mk' inferInstance inferInstance⟩
theorem info_int : (Try.prog.info? 3).map (fun i => (i.zero, i.size, i.bytes)) = some (some (.int .i64 0), 1, 8) := by kernel_rfl
theorem ints_zeros (n : Nat) : (List.replicate n (Value.int .i64 0).cells.toList).flatten = ints (List.replicate n 0) := by
  induction n with
  | zero => rfl
  | succ n ih => rw [List.replicate_succ, List.replicate_succ, List.flatten_cons, ih]; rfl
theorem ints_upd (d r : List Int) (y x : Int) (k : Nat) (h : d.length = k) : (ints (d ++ y :: r)).set k (.int .i64 x) = ints ((d ++ [x]) ++ r) := by
  have hl : (ints d).length = k := by rw [ints_len, h]
  rw [ints_append, ints_append, ints_append, List.set_append_right _ _ (by omega), hl, Nat.sub_self, List.append_assoc]
  rfl
/-- The marks of ints. -/
def mkInts (q : Int) : Nat → List Int
  | 0 => []
  | n + 1 => mkInts q n ++ [q + n]
theorem mkInts_len (q : Int) (n : Nat) : (mkInts q n).length = n := by
  induction n with
  | zero => rfl
  | succ n ih => simp [mkInts, ih]
theorem mkInts_get (q : Int) : ∀ {n k : Nat}, k < n → (mkInts q n)[k]? = some (q + k)
  | 0, k, h => by omega
  | n + 1, k, h => by
    by_cases hk : k < n
    · rw [mkInts, List.getElem?_append_left (by rw [mkInts_len]; exact hk)]; exact mkInts_get q hk
    · have : k = n := by omega
      subst this
      rw [mkInts, List.getElem?_append_right (by rw [mkInts_len]; exact Nat.le_refl _), mkInts_len, Nat.sub_self]
      rfl
set_option maxRecDepth 100000 in
set_option maxHeartbeats 1000000 in
theorem markIntS (F : HP) (w : World) (A : Option Addr) (c : Nat) (l : List Int) [H : SepI w (Row 3 1 (.slice A l.length c) l.length (ints l) * F)] (q : Int) (hl : l.length ≤ 140737488355328) (h0 : 0 ≤ q) (h1 : q ≤ 4611686018427387904) :
    Calls Try.prog 22 #[.slice A l.length c, .int .i64 q] w fun e w' => e = .returned (.int .i64 (q + l.length)) ∧
      Post w (Row 3 1 (.slice A l.length c) l.length (ints (mkInts q l.length)) * F) w' := by
  obtain ⟨n, hn'⟩ : ∃ n, n = l.length := ⟨_, rfl⟩
  have HN := Hd.mk hn'
  rw [← hn'] at hl ⊢
  rw [← hn'] at H
  clear hn'
  go_enter Try.func22, Try.ntmps22
  go_wp2
  go_loopw [1, 5] (fun v i wr => ∃ k : Nat, k ≤ n ∧ i = .int .i64 k ∧ v = .int .i64 (q + k) ∧ ExtI w wr ∧
    SepI wr (Row 3 1 (.slice A n c) n (ints (mkInts q k ++ l.drop k)) * F)) (fun _ i _ => n - (intOf i).toNat)
  case atStart => exact ⟨0, Nat.zero_le _, rfl, by simp, inferInstance, by simpa [mkInts] using H⟩
  case round =>
    obtain ⟨k, hk, rfl, rfl, HX, HS⟩ := hrel
    by_cases hlt : k < n
    · obtain ⟨x, hx⟩ := get_ex (xs := l) (k := k) (by rw [← HN.out]; exact hlt)
      obtain ⟨g, rfl⟩ := Row.addr HS (by omega)
      have hz : (mkInts q k ++ l.drop k)[k]? = some x := by
        rw [List.getElem?_append_right (by rw [mkInts_len]; exact Nat.le_refl _), mkInts_len, Nat.sub_self, List.getElem?_drop]; exact hx
      have d1 : CellAt _ g _ _ := Row.cellAt (e := 3) (size := 1) (g := g) (n := n) (c := c) (F := F) (ints_get hz)
      have hd : l.drop k = x :: l.drop (k + 1) := by
        obtain ⟨hlt', e⟩ := List.getElem?_eq_some_iff.1 hx
        rw [List.drop_eq_getElem_cons hlt', e]
      have HG := Hd.mk hd
      clear hx hz hd
      go_wp2
      go_roundw
      case rel => exact ⟨k + 1, by omega, by go_num, by go_num, inferInstance, SepI.cast inferInstance (by
        rw [HG.out, show ints (mkInts q (k + 1) ++ l.drop (k + 1)) = _ from (ints_upd (mkInts q k) (l.drop (k + 1)) x (q + k) k (mkInts_len _ _)).symm])⟩
      case measure => simp [intOf]; omega
    · have : k = n := by omega
      subst this
      go_wp2
      go_ret
      exact ⟨rfl, Post.mk' (by rw [HN.out, List.drop_length, List.append_nil, ← HN.out] at HS; exact HS) HX⟩
set_option maxRecDepth 100000 in
set_option maxHeartbeats 1000000 in
theorem heldIntS (S : HP) (w : World) [H : SepI w S] (A : Option Addr) (c n : Nat) (q : Int) [r : Rd S A (ints (mkInts q n))] (hn : n ≤ 140737488355328) (h0 : 0 ≤ q) (h1 : q ≤ 4611686018427387904) :
    Calls Try.prog 23 #[.slice A n c, .int .i64 q] w fun e w' => e = .returned (.int .i64 (q + n)) ∧ w' = w := by
  go_enter Try.func23, Try.ntmps23
  go_wp2
  go_loop [1, 5] (fun v i => ∃ k : Nat, k ≤ n ∧ i = .int .i64 k ∧ v = .int .i64 (q + k)) (fun _ i => n - (intOf i).toNat)
  case atStart => exact ⟨0, Nat.zero_le _, rfl, by simp⟩
  case round =>
    obtain ⟨k, hk, rfl, rfl⟩ := hrel
    by_cases hlt : k < n
    · obtain ⟨b, off, rfl⟩ := r.addr H (j := k) (by rw [ints_len, mkInts_len]; omega)
      have c1 := r.cell (ints_get (mkInts_get q hlt))
      go_wp2
      go_round
      case rel => exact ⟨k + 1, by omega, by go_num, by go_num⟩
      case measure => simp [intOf]; omega
    · have : k = n := by omega
      subst this
      go_wp2
      go_ret
      exact ⟨rfl, rfl⟩
end Go.Proofs.Ytobikkdnalnllaa
namespace Go.Proofs.Ytobikkdnalnllaa
open Go.RowKit SL
attribute [local go_sem] cell_blk frozen_blk lt_blk cell_at frozen_row lt_row
set_option linter.unusedVariables false
set_option linter.unusedSimpArgs false
def Enters (g : Nat) : Prop := ∀ (args : Array Value) (w : World), (callFunc g args).run Try.prog w = .ok (.enter g args) w
def Pred (S : HP) (g : Nat) (lb : Array Value) (x : Value) (b : Bool) : Prop := ∀ W, SepI W S → Calls Try.prog g (#[x] ++ lb) W fun e w' => e = .returned (.bool b) ∧ Post W S w'
def IdxPost (w : World) (S : HP) (b : Bool) (e : Ending) (w' : World) : Prop := ∃ r : Int, e = .returned (.int .i64 r) ∧ (b = true → 0 ≤ r) ∧ (b = false → r < 0) ∧ Post w S w'
def intV (x : Int) : Value := .int .i64 x
theorem any_take_succ {α : Type} {l : List α} {k : Nat} {x : α} (p : α → Bool) (h : l[k]? = some x) (h0 : (l.take k).any p = false) (h1 : p x = false) : (l.take (k + 1)).any p = false := by
  rw [take_succ_eq h, List.any_append, h0]; simp [h1]
theorem any_hit {α : Type} {l : List α} {k : Nat} {x : α} (p : α → Bool) (h : l[k]? = some x) (h1 : p x = true) : l.any p = true := List.any_eq_true.2 ⟨x, List.mem_of_getElem? h, h1⟩
theorem any_not {α : Type} (l : List α) (p : α → Bool) : l.any (fun x => !p x) = !l.all p := by
  induction l with
  | nil => rfl
  | cons x l ih => simp only [List.any_cons, List.all_cons, ih, Bool.not_and]
set_option maxHeartbeats 1000000 in
theorem indexInt (S : HP) (w : World) [H : SepI w S] (A : Option Addr) (c : Nat) (l : List Int) [r : Rd S A (ints l)] (hn : l.length ≤ 1048576) (g : Nat) (lb : Array Value) (p : Int → Bool) (eg : Enters g) (hp : ∀ x ∈ l, Pred S g lb (intV x) (p x)) :
    Calls Try.prog 100 #[.slice A l.length c, .func (.func g) #[] lb] w (IdxPost w S (l.any p)) := by
  obtain ⟨n, hn'⟩ : ∃ n, n = l.length := ⟨_, rfl⟩
  have HN := Hd.mk hn'
  have HP := Hd.mk hp
  rw [← hn'] at hn ⊢
  clear hn' hp
  unfold Enters at eg
  go_enter Try.func100, Try.ntmps100
  go_wp2
  go_loopw [8] (fun i wr => ∃ k : Nat, k ≤ n ∧ i = .int .i64 k ∧ Hd ((l.take k).any p = false) ∧ SepI wr S ∧ ExtI w wr) (fun i _ => n - (intOf i).toNat)
  case atStart => exact ⟨0, Nat.zero_le _, rfl, ⟨rfl⟩, inferInstance, inferInstance⟩
  case round =>
    obtain ⟨k, hk, rfl, HT, HS, HE⟩ := hrel
    by_cases hlt : k < n
    · obtain ⟨x, hx⟩ := get_ex (xs := l) (k := k) (by rw [← HN.out]; exact hlt)
      obtain ⟨b, off, rfl⟩ := r.addr H (j := k) (by rw [ints_len, ← HN.out]; omega)
      have c1 := r.cell (ints_get hx)
      have hcall : ∀ W, SepI W S → Calls Try.prog g (#[.int .i64 x] ++ lb) W fun e w' => e = .returned (.bool (p x)) ∧ Post W S w' := HP.out x (List.mem_of_getElem? hx)
      have HX := Hd.mk hx
      clear hx
      cases hq : p x
      · rw [hq] at hcall
        have HQ := Hd.mk hq
        have HC := Hd.mk hcall
        clear hq hcall
        go_wp2_with ((with_reducible refine (HC.out _ inferInstance).mono ?_); rintro e w' ⟨rfl, HP'⟩; have HS2 := HP'.sep; have HE2 := HP'.ext; clear HP')
        go_roundw
        case rel => exact ⟨k + 1, by omega, by go_num, ⟨any_take_succ p HX.out HT.out HQ.out⟩, inferInstance, inferInstance⟩
        case measure => simp [intOf]; omega
      · rw [hq] at hcall
        have HQ := Hd.mk hq
        have HC := Hd.mk hcall
        clear hq hcall
        go_wp2_with ((with_reducible refine (HC.out _ inferInstance).mono ?_); rintro e w' ⟨rfl, HP'⟩; have HS2 := HP'.sep; have HE2 := HP'.ext; clear HP')
        go_ret
        exact ⟨k, rfl, fun _ => by omega, (fun h => by rw [any_hit p HX.out HQ.out] at h; cases h), Post.mk' inferInstance inferInstance⟩
    · have : k = n := by omega
      subst this
      go_wp2
      go_ret
      exact ⟨-1, rfl, (fun h => by have := HT.out; rw [HN.out, List.take_length, h] at this; cases this), (fun _ => by omega), Post.mk' inferInstance inferInstance⟩
def inB (n lo hi : Int) : Bool := decide (lo ≤ n ∧ n ≤ hi)
theorem inB_true {n lo hi : Int} (h : inB n lo hi = true) : lo ≤ n ∧ n ≤ hi := of_decide_eq_true h
theorem inB_false {n lo hi : Int} (h : inB n lo hi = false) : ¬ (lo ≤ n ∧ n ≤ hi) := of_decide_eq_false h
theorem inB_mk {n lo hi : Int} (h1 : lo ≤ n) (h2 : n ≤ hi) : inB n lo hi = true := decide_eq_true ⟨h1, h2⟩
theorem inB_no1 {n lo hi : Int} (h : ¬ lo ≤ n) : inB n lo hi = false := decide_eq_false fun q => h q.1
theorem inB_no2 {n lo hi : Int} (h : ¬ n ≤ hi) : inB n lo hi = false := decide_eq_false fun q => h q.2
theorem impl_in (n lo hi : Int) (v : Bool) (w : World) (hv : inB n lo hi = v) : Calls Try.prog 76 #[.int .i64 n, .int .i64 lo, .int .i64 hi] w fun e w' => e = .returned (.bool v) ∧ w' = w := by
  subst hv
  by_cases h1 : lo ≤ n
  · by_cases h2 : n ≤ hi
    · rw [inB_mk h1 h2]
      go_enter Try.func76, Try.ntmps76
      go_wp2
      go_ret
      exact ⟨by simp [*], rfl⟩
    · rw [inB_no2 h2]
      go_enter Try.func76, Try.ntmps76
      go_wp2
      go_ret
      exact ⟨by simp [*], rfl⟩
  · rw [inB_no1 h1]
    go_enter Try.func76, Try.ntmps76
    go_wp2
    go_ret
    exact ⟨by simp [*], rfl⟩
theorem spec_in (n lo hi : Int) (v : Bool) (w : World) (hv : inB n lo hi = v) : Calls Try.prog 74 #[.int .i64 n, .int .i64 lo, .int .i64 hi] w fun e w' => e = .returned (.bool v) ∧ w' = w := by
  subst hv
  by_cases h1 : lo ≤ n
  · by_cases h2 : n ≤ hi
    · rw [inB_mk h1 h2]
      go_enter Try.func74, Try.ntmps74
      go_wp2
      go_ret
      exact ⟨by simp [*], rfl⟩
    · rw [inB_no2 h2]
      go_enter Try.func74, Try.ntmps74
      go_wp2
      go_ret
      exact ⟨by simp [*], rfl⟩
  · rw [inB_no1 h1]
    go_enter Try.func74, Try.ntmps74
    go_wp2
    go_ret
    exact ⟨by simp [*], rfl⟩
theorem bne_of {a b : Int} (h : ¬ a = b) : (a == b) = false := by simpa using h
theorem beq_of {a b : Int} (h : a = b) : (a == b) = true := by simpa using h
end Go.Proofs.Ytobikkdnalnllaa
namespace Go.Proofs.Ytobikkdnalnllaa
open Go.RowKit SL
attribute [local go_sem] cell_blk frozen_blk lt_blk cell_at frozen_row lt_row
set_option linter.unusedVariables false
set_option linter.unusedSimpArgs false
theorem impl_isRegister (n : Int) (v : Bool) (w : World) (hv : inB n 0 3 = v) : Calls Try.prog 147 #[.int .i64 n] w fun e w' => e = .returned (.bool v) ∧ w' = w := by
  have HV := Hd.mk hv
  clear hv
  go_enter Try.func147, Try.ntmps147
  go_wp2_with (go_at_call 76; refine (impl_in _ _ _ v _ HV.out).mono ?_; rintro e w' ⟨rfl, rfl⟩)
  go_ret
  exact ⟨rfl, rfl⟩
theorem impl_isNumber (n : Int) (v : Bool) (w : World) (hv : inB n (-32768) 32767 = v) : Calls Try.prog 92 #[.int .i64 n] w fun e w' => e = .returned (.bool v) ∧ w' = w := by
  have HV := Hd.mk hv
  clear hv
  go_enter Try.func92, Try.ntmps92
  go_wp2_with (go_at_call 76; refine (impl_in _ _ _ v _ HV.out).mono ?_; rintro e w' ⟨rfl, rfl⟩)
  go_ret
  exact ⟨rfl, rfl⟩
theorem spec_l2Reg (n : Int) (v : Bool) (w : World) (hv : inB n 0 3 = v) : Calls Try.prog 121 #[.int .i64 n] w fun e w' => e = .returned (.bool v) ∧ w' = w := by
  have HV := Hd.mk hv
  clear hv
  go_enter Try.func121, Try.ntmps121
  go_wp2_with (go_at_call 74; refine (spec_in _ _ _ v _ HV.out).mono ?_; rintro e w' ⟨rfl, rfl⟩)
  go_ret
  exact ⟨rfl, rfl⟩
theorem spec_l2Number (n : Int) (v : Bool) (w : World) (hv : inB n (-32768) 32767 = v) : Calls Try.prog 88 #[.int .i64 n] w fun e w' => e = .returned (.bool v) ∧ w' = w := by
  have HV := Hd.mk hv
  clear hv
  go_enter Try.func88, Try.ntmps88
  go_wp2_with (go_at_call 74; refine (spec_in _ _ _ v _ HV.out).mono ?_; rintro e w' ⟨rfl, rfl⟩)
  go_ret
  exact ⟨rfl, rfl⟩
theorem spec_l2Function (S : HP) (A : Option Addr) (c n : Nat) (f : Int) (v : Bool) (w : World) [H : SepI w S] (hn : n ≤ 1048576) (hv : inB f 0 ((n : Int) - 1) = v) :
    Calls Try.prog 97 #[.agg #[.slice A n c], .int .i64 f] w fun e w' => e = .returned (.bool v) ∧ Post w S w' := by
  have HV := Hd.mk hv
  clear hv
  go_enter Try.func97, Try.ntmps97
  go_wp2_with (go_at_call 74; refine (spec_in _ _ _ v _ HV.out).mono ?_; rintro e w' ⟨rfl, rfl⟩)
  go_ret
  exact ⟨rfl, Post.mk' (Ent.sep (S := _) inferInstance inferInstance) inferInstance⟩
/-- A valid step. -/
def stepB (s : St) (n : Nat) : Bool :=
  if s.k = 1 then inB s.a 0 3 && inB s.b (-32768) 32767
  else if s.k = 2 then inB s.a 0 3 && inB s.b 0 3
  else if s.k = 4 ∨ s.k = 5 then inB s.a 0 ((n : Int) - 1) && inB s.b 0 3
  else if s.k = 11 then inB s.a 0 8 && inB s.b 0 3
  else if s.k = 10 then decide (s.a = 0) && decide (s.b = 0)
  else inB s.k 1 13 && (inB s.a 0 3 && decide (s.b = 0))
end Go.Proofs.Ytobikkdnalnllaa
namespace Go.Proofs.Ytobikkdnalnllaa
open Go.RowKit SL
attribute [local go_sem] cell_blk frozen_blk lt_blk cell_at frozen_row lt_row
set_option linter.unusedVariables false
set_option linter.unusedSimpArgs false
set_option maxHeartbeats 4000000 in
theorem impl_isStep (S : HP) (w : World) [H : SepI w S] (s : St) (n : Nat) (v : Bool) (hn : n ≤ 1048576) (hv : stepB s n = v) :
    Calls Try.prog 129 #[.agg #[.int .i64 s.k, .int .i64 s.a, .int .i64 s.b], .int .i64 n] w fun e w' => e = .returned (.bool v) ∧ Post w S w' := by
  subst hv
  obtain ⟨k, a, b⟩ := s
  simp only
  obtain ⟨va, hva⟩ : ∃ va, inB a 0 3 = va := ⟨_, rfl⟩
  obtain ⟨vb, hvb⟩ : ∃ vb, inB b 0 3 = vb := ⟨_, rfl⟩
  by_cases h1 : k = 1
  · subst h1
    obtain ⟨vn, hvn⟩ : ∃ vn, inB b (-32768) 32767 = vn := ⟨_, rfl⟩
    have e : stepB ⟨1, a, b⟩ n = (va && vn) := by unfold stepB; rw [if_pos rfl]; simp only; rw [hva, hvn]
    rw [e]
    have HA := Hd.mk hva
    have HN := Hd.mk hvn
    clear hva hvb hvn e
    cases va <;> cases vn
    all_goals
      go_enter Try.func129, Try.ntmps129
      go_wp2
      go_quiet ((go_at_call 147; exact Calls.quiet_of_same (impl_isRegister _ _ _ HA.out)))
      go_wp2_with (first | (go_at_call 92; refine (impl_isNumber _ _ _ HN.out).mono ?_; rintro e w' ⟨rfl, rfl⟩) | (go_at_call 76; refine (impl_in _ _ _ true _ (by decide)).mono ?_; rintro e w' ⟨rfl, rfl⟩))
      go_ret
      exact ⟨rfl, Post.mk' (Ent.sep (S := _) inferInstance inferInstance) inferInstance⟩
  by_cases h2 : k = 2
  · subst h2
    have e : stepB ⟨2, a, b⟩ n = (va && vb) := by simp [stepB, *]
    rw [e]
    have HA := Hd.mk hva
    have HB := Hd.mk hvb
    clear hva hvb e h1
    cases va <;> cases vb
    all_goals
      go_enter Try.func129, Try.ntmps129
      go_wp2
      go_quiet ((go_at_call 147; exact Calls.quiet_of_same (impl_isRegister _ _ _ HA.out)))
      go_wp2_with (first | (go_at_call 147; refine (impl_isRegister _ _ _ HB.out).mono ?_; rintro e w' ⟨rfl, rfl⟩) | (go_at_call 76; refine (impl_in _ _ _ true _ (by decide)).mono ?_; rintro e w' ⟨rfl, rfl⟩))
      go_ret
      exact ⟨by first | rfl | (simp [*]; done), Post.mk' (Ent.sep (S := _) inferInstance inferInstance) inferInstance⟩
  by_cases h4 : k = 4
  · subst h4
    obtain ⟨vf, hvf⟩ : ∃ vf, inB a 0 ((n : Int) - 1) = vf := ⟨_, rfl⟩
    have e : stepB ⟨4, a, b⟩ n = (vf && vb) := by simp [stepB, *]
    rw [e]
    have HA := Hd.mk hva
    have HB := Hd.mk hvb
    have HF := Hd.mk hvf
    clear hva hvb hvf e h1 h2
    have hw : IntKind.i64.wrap ((n : Int) - 1) = (n : Int) - 1 := IntWalk.i64_in _ (by omega)
    cases vf <;> cases vb
    all_goals
      go_enter Try.func129, Try.ntmps129
      go_wp2
      go_quiet ((go_at_call 147; exact Calls.quiet_of_same (impl_isRegister _ _ _ HA.out)))
      go_wp2
      go_quiet (first | (go_at_call 76; exact quietN (impl_in _ _ _ _ _ HF.out)) | (go_at_call 147; exact quietN (impl_isRegister _ _ _ HB.out)))
      go_wp2_with (go_at_call 76; refine (impl_in _ _ _ true _ (by decide)).mono ?_; rintro e w' ⟨rfl, rfl⟩)
      go_ret
      exact ⟨by first | rfl | (simp [*]; done), Post.mk' (Ent.sep (S := _) inferInstance inferInstance) inferInstance⟩
  by_cases h5 : k = 5
  · subst h5
    obtain ⟨vf, hvf⟩ : ∃ vf, inB a 0 ((n : Int) - 1) = vf := ⟨_, rfl⟩
    have e : stepB ⟨5, a, b⟩ n = (vf && vb) := by simp [stepB, *]
    rw [e]
    have HA := Hd.mk hva
    have HB := Hd.mk hvb
    have HF := Hd.mk hvf
    clear hva hvb hvf e h1 h2
    have hw : IntKind.i64.wrap ((n : Int) - 1) = (n : Int) - 1 := IntWalk.i64_in _ (by omega)
    cases vf <;> cases vb
    all_goals
      go_enter Try.func129, Try.ntmps129
      go_wp2
      go_quiet ((go_at_call 147; exact Calls.quiet_of_same (impl_isRegister _ _ _ HA.out)))
      go_wp2
      go_quiet (first | (go_at_call 76; exact quietN (impl_in _ _ _ _ _ HF.out)) | (go_at_call 147; exact quietN (impl_isRegister _ _ _ HB.out)))
      go_wp2_with (go_at_call 76; refine (impl_in _ _ _ true _ (by decide)).mono ?_; rintro e w' ⟨rfl, rfl⟩)
      go_ret
      exact ⟨by first | rfl | (simp [*]; done), Post.mk' (Ent.sep (S := _) inferInstance inferInstance) inferInstance⟩
  by_cases h11 : k = 11
  · subst h11
    obtain ⟨vf, hvf⟩ : ∃ vf, inB a 0 8 = vf := ⟨_, rfl⟩
    have e : stepB ⟨11, a, b⟩ n = (vf && vb) := by simp [stepB, *]
    rw [e]
    have HA := Hd.mk hva
    have HB := Hd.mk hvb
    have HF := Hd.mk hvf
    clear hva hvb hvf e h1 h2 h4 h5
    cases vf <;> cases vb
    all_goals
      go_enter Try.func129, Try.ntmps129
      go_wp2
      go_quiet ((go_at_call 147; exact Calls.quiet_of_same (impl_isRegister _ _ _ HA.out)))
      go_wp2
      go_quiet (first | (go_at_call 76; exact quietN (impl_in _ _ _ _ _ HF.out)) | (go_at_call 147; exact quietN (impl_isRegister _ _ _ HB.out)))
      go_wp2_with (go_at_call 76; refine (impl_in _ _ _ true _ (by decide)).mono ?_; rintro e w' ⟨rfl, rfl⟩)
      go_ret
      exact ⟨by first | rfl | (simp [*]; done), Post.mk' (Ent.sep (S := _) inferInstance inferInstance) inferInstance⟩
  by_cases h10 : k = 10
  · subst h10
    have e : stepB ⟨10, a, b⟩ n = (decide (a = 0) && decide (b = 0)) := by simp [stepB, *]
    rw [e]
    have HA := Hd.mk hva
    clear hva hvb e h1 h2 h4 h5 h11
    by_cases ha0 : a = 0
    · subst ha0
      by_cases hb0 : b = 0
      · subst hb0
        go_enter Try.func129, Try.ntmps129
        go_wp2
        go_quiet ((go_at_call 147; exact Calls.quiet_of_same (impl_isRegister _ _ _ HA.out)))
        go_wp2_with (go_at_call 76; refine (impl_in _ _ _ true _ (by decide)).mono ?_; rintro e w' ⟨rfl, rfl⟩)
        go_ret
        exact ⟨by first | rfl | (simp [*]; done), Post.mk' (Ent.sep (S := _) inferInstance inferInstance) inferInstance⟩
      · have hb' := bne_of hb0
        rw [decide_eq_false hb0]
        clear hb0
        go_enter Try.func129, Try.ntmps129
        go_wp2
        go_quiet ((go_at_call 147; exact Calls.quiet_of_same (impl_isRegister _ _ _ HA.out)))
        go_wp2_with (go_at_call 76; refine (impl_in _ _ _ true _ (by decide)).mono ?_; rintro e w' ⟨rfl, rfl⟩)
        go_ret
        exact ⟨by first | rfl | (simp [*]; done), Post.mk' (Ent.sep (S := _) inferInstance inferInstance) inferInstance⟩
    · have ha' := bne_of ha0
      rw [decide_eq_false ha0]
      clear ha0
      by_cases hb0 : b = 0
      · subst hb0
        go_enter Try.func129, Try.ntmps129
        go_wp2
        go_quiet ((go_at_call 147; exact Calls.quiet_of_same (impl_isRegister _ _ _ HA.out)))
        go_wp2_with (go_at_call 76; refine (impl_in _ _ _ true _ (by decide)).mono ?_; rintro e w' ⟨rfl, rfl⟩)
        go_ret
        exact ⟨by first | rfl | (simp [*]; done), Post.mk' (Ent.sep (S := _) inferInstance inferInstance) inferInstance⟩
      · have hb' := bne_of hb0
        rw [decide_eq_false hb0]
        clear hb0
        go_enter Try.func129, Try.ntmps129
        go_wp2
        go_quiet ((go_at_call 147; exact Calls.quiet_of_same (impl_isRegister _ _ _ HA.out)))
        go_wp2_with (go_at_call 76; refine (impl_in _ _ _ true _ (by decide)).mono ?_; rintro e w' ⟨rfl, rfl⟩)
        go_ret
        exact ⟨by first | rfl | (simp [*]; done), Post.mk' (Ent.sep (S := _) inferInstance inferInstance) inferInstance⟩
  obtain ⟨vk, hvk⟩ : ∃ vk, inB k 1 13 = vk := ⟨_, rfl⟩
  obtain ⟨vz, hvz⟩ : ∃ vz, decide (b = 0) = vz := ⟨_, rfl⟩
  have e : stepB ⟨k, a, b⟩ n = (vk && (va && vz)) := by unfold stepB; rw [if_neg h1, if_neg h2, if_neg (by simp only; omega), if_neg h11, if_neg h10]; simp only; rw [hvk, hva, hvz]
  rw [e]
  have HA := Hd.mk hva
  have HK := Hd.mk hvk
  have q1 := bne_of h1
  have q2 := bne_of h2
  have q4 := bne_of h4
  have q5 := bne_of h5
  have q10 := bne_of h10
  have q11 := bne_of h11
  clear hva hvb hvk e h1 h2 h4 h5 h10 h11
  by_cases hb0 : b = 0
  · subst hb0
    have : vz = true := by rw [← hvz]; rfl
    subst this
    clear hvz
    cases va <;> cases vk
    all_goals
      go_enter Try.func129, Try.ntmps129
      go_wp2
      go_quiet ((go_at_call 147; exact Calls.quiet_of_same (impl_isRegister _ _ _ HA.out)))
      go_wp2_with (go_at_call 76; refine (impl_in _ _ _ _ _ HK.out).mono ?_; rintro e w' ⟨rfl, rfl⟩)
      go_ret
      exact ⟨by first | rfl | (simp [*]; done), Post.mk' (Ent.sep (S := _) inferInstance inferInstance) inferInstance⟩
  · have hb' := bne_of hb0
    have : vz = false := by rw [← hvz]; exact decide_eq_false hb0
    subst this
    clear hvz hb0
    cases va <;> cases vk
    all_goals
      go_enter Try.func129, Try.ntmps129
      go_wp2
      go_quiet ((go_at_call 147; exact Calls.quiet_of_same (impl_isRegister _ _ _ HA.out)))
      go_wp2_with (go_at_call 76; refine (impl_in _ _ _ _ _ HK.out).mono ?_; rintro e w' ⟨rfl, rfl⟩)
      go_ret
      exact ⟨by first | rfl | (simp [*]; done), Post.mk' (Ent.sep (S := _) inferInstance inferInstance) inferInstance⟩
end Go.Proofs.Ytobikkdnalnllaa
namespace Go.Proofs.Ytobikkdnalnllaa
open Go.RowKit SL
attribute [local go_sem] cell_blk frozen_blk lt_blk cell_at frozen_row lt_row
set_option linter.unusedVariables false
set_option linter.unusedSimpArgs false
set_option maxHeartbeats 8000000 in
theorem spec_l2Step (S : HP) (w : World) [H : SepI w S] (A : Option Addr) (c : Nat) (s : St) (n : Nat) (v : Bool) (hn : n ≤ 1048576) (hv : stepB s n = v) :
    Calls Try.prog 108 #[.agg #[.slice A n c], .agg #[.int .i64 s.k, .int .i64 s.a, .int .i64 s.b]] w fun e w' => e = .returned (.bool v) ∧ Post w S w' := by
  subst hv
  obtain ⟨k, a, b⟩ := s
  simp only
  obtain ⟨va, hva⟩ : ∃ va, inB a 0 3 = va := ⟨_, rfl⟩
  obtain ⟨vb, hvb⟩ : ∃ vb, inB b 0 3 = vb := ⟨_, rfl⟩
  have HA := Hd.mk hva
  have HB := Hd.mk hvb
  by_cases h1 : k = 1
  · subst h1
    obtain ⟨vn, hvn⟩ : ∃ vn, inB b (-32768) 32767 = vn := ⟨_, rfl⟩
    have e : stepB ⟨1, a, b⟩ n = (va && vn) := by simp [stepB, *]
    rw [e]
    have HN := Hd.mk hvn
    clear hva hvb hvn e
    cases va <;> cases vn
    all_goals
      go_enter Try.func108, Try.ntmps108
      go_wp2_with (first | (go_at_call 121; refine (spec_l2Reg _ _ _ HA.out).mono ?_; rintro e w' ⟨rfl, rfl⟩) | (go_at_call 88; refine (spec_l2Number _ _ _ HN.out).mono ?_; rintro e w' ⟨rfl, rfl⟩))
      go_ret
      exact ⟨by first | rfl | (simp [*]; done), Post.mk' (Ent.sep (S := _) inferInstance inferInstance) inferInstance⟩
  by_cases h2 : k = 2
  · subst h2
    have e : stepB ⟨2, a, b⟩ n = (va && vb) := by simp [stepB, *]
    rw [e]
    clear hva hvb e h1
    cases va <;> cases vb
    all_goals
      go_enter Try.func108, Try.ntmps108
      go_wp2_with (first | (go_at_call 121; (first | (with_reducible refine (spec_l2Reg a _ _ HA.out).mono ?_) | (with_reducible refine (spec_l2Reg b _ _ HB.out).mono ?_)); rintro e w' ⟨rfl, rfl⟩))
      go_ret
      exact ⟨by first | rfl | (simp [*]; done), Post.mk' (Ent.sep (S := _) inferInstance inferInstance) inferInstance⟩
  by_cases h4 : k = 4
  · subst h4
    obtain ⟨vf, hvf⟩ : ∃ vf, inB a 0 ((n : Int) - 1) = vf := ⟨_, rfl⟩
    have e : stepB ⟨4, a, b⟩ n = (vf && vb) := by simp [stepB, *]
    rw [e]
    have HF := Hd.mk hvf
    clear hva hvb hvf e h1 h2
    cases vf <;> cases vb
    all_goals
      go_enter Try.func108, Try.ntmps108
      go_wp2_with (first | (go_at_call 97; refine (spec_l2Function _ _ _ _ _ _ _ hn HF.out).mono ?_; rintro e w' ⟨rfl, HP'⟩; have HS2 := HP'.sep; have HE2 := HP'.ext; clear HP') | (go_at_call 121; refine (spec_l2Reg b _ _ HB.out).mono ?_; rintro e w' ⟨rfl, rfl⟩))
      go_ret
      exact ⟨by first | rfl | (simp [*]; done), Post.mk' (Ent.sep (S := _) inferInstance inferInstance) inferInstance⟩
  by_cases h5 : k = 5
  · subst h5
    obtain ⟨vf, hvf⟩ : ∃ vf, inB a 0 ((n : Int) - 1) = vf := ⟨_, rfl⟩
    have e : stepB ⟨5, a, b⟩ n = (vf && vb) := by simp [stepB, *]
    rw [e]
    have HF := Hd.mk hvf
    clear hva hvb hvf e h1 h2
    cases vf <;> cases vb
    all_goals
      go_enter Try.func108, Try.ntmps108
      go_wp2_with (first | (go_at_call 97; refine (spec_l2Function _ _ _ _ _ _ _ hn HF.out).mono ?_; rintro e w' ⟨rfl, HP'⟩; have HS2 := HP'.sep; have HE2 := HP'.ext; clear HP') | (go_at_call 121; refine (spec_l2Reg b _ _ HB.out).mono ?_; rintro e w' ⟨rfl, rfl⟩))
      go_ret
      exact ⟨by first | rfl | (simp [*]; done), Post.mk' (Ent.sep (S := _) inferInstance inferInstance) inferInstance⟩
  by_cases h11 : k = 11
  · subst h11
    obtain ⟨vf, hvf⟩ : ∃ vf, inB a 0 8 = vf := ⟨_, rfl⟩
    have e : stepB ⟨11, a, b⟩ n = (vf && vb) := by simp [stepB, *]
    rw [e]
    have HF := Hd.mk hvf
    clear hva hvb hvf e h1 h2 h4 h5
    cases vf <;> cases vb
    all_goals
      go_enter Try.func108, Try.ntmps108
      go_wp2_with (first | (go_at_call 74; refine (spec_in _ _ _ _ _ HF.out).mono ?_; rintro e w' ⟨rfl, rfl⟩) | (go_at_call 121; refine (spec_l2Reg _ _ _ HB.out).mono ?_; rintro e w' ⟨rfl, rfl⟩))
      go_ret
      exact ⟨by first | rfl | (simp [*]; done), Post.mk' (Ent.sep (S := _) inferInstance inferInstance) inferInstance⟩
  by_cases h10 : k = 10
  · subst h10
    have e : stepB ⟨10, a, b⟩ n = (decide (a = 0) && decide (b = 0)) := by simp [stepB]
    rw [e]
    clear hva hvb e h1 h2 h4 h5 h11
    by_cases ha0 : a = 0
    · subst ha0
      by_cases hb0 : b = 0
      · subst hb0
        go_enter Try.func108, Try.ntmps108
        go_wp2
        go_ret
        exact ⟨by first | rfl | (simp [*]; done), Post.mk' (Ent.sep (S := _) inferInstance inferInstance) inferInstance⟩
      · have hb' := bne_of hb0
        rw [decide_eq_false hb0]
        clear hb0
        go_enter Try.func108, Try.ntmps108
        go_wp2
        go_ret
        exact ⟨by first | rfl | (simp [*]; done), Post.mk' (Ent.sep (S := _) inferInstance inferInstance) inferInstance⟩
    · have ha' := bne_of ha0
      rw [decide_eq_false ha0]
      clear ha0
      go_enter Try.func108, Try.ntmps108
      go_wp2
      go_ret
      exact ⟨by first | rfl | (simp [*]; done), Post.mk' (Ent.sep (S := _) inferInstance inferInstance) inferInstance⟩
  by_cases hk : k = 3 ∨ k = 6 ∨ k = 7 ∨ k = 8 ∨ k = 9 ∨ k = 12 ∨ k = 13
  · have e : stepB ⟨k, a, b⟩ n = (va && decide (b = 0)) := by
      rcases hk with h | h | h | h | h | h | h <;> subst h <;> simp [stepB, inB, ← hva]
    rw [e]
    clear hva hvb e h1 h2 h4 h5 h10 h11
    by_cases hb0 : b = 0
    · subst hb0
      cases va
      all_goals
        rcases hk with h | h | h | h | h | h | h
        all_goals
          subst h
          go_enter Try.func108, Try.ntmps108
          go_wp2_with (first | (go_at_call 121; refine (spec_l2Reg _ _ _ HA.out).mono ?_; rintro e w' ⟨rfl, rfl⟩))
          go_ret
          exact ⟨by first | rfl | (simp [*]; done), Post.mk' (Ent.sep (S := _) inferInstance inferInstance) inferInstance⟩
    · have hb' := bne_of hb0
      rw [decide_eq_false hb0]
      clear hb0
      cases va
      all_goals
        rcases hk with h | h | h | h | h | h | h
        all_goals
          subst h
          go_enter Try.func108, Try.ntmps108
          go_wp2_with (first | (go_at_call 121; refine (spec_l2Reg _ _ _ HA.out).mono ?_; rintro e w' ⟨rfl, rfl⟩))
          go_ret
          exact ⟨by first | rfl | (simp [*]; done), Post.mk' (Ent.sep (S := _) inferInstance inferInstance) inferInstance⟩
  have e : stepB ⟨k, a, b⟩ n = false := by
    have hk' : inB k 1 13 = false := decide_eq_false (by omega)
    simp [stepB, h1, h2, h4, h5, h10, h11, hk']
  rw [e]
  have q1 := bne_of h1
  have q2 := bne_of h2
  have q4 := bne_of h4
  have q5 := bne_of h5
  have q10 := bne_of h10
  have q11 := bne_of h11
  have q3 : (k == 3) = false := bne_of (by omega)
  have q6 : (k == 6) = false := bne_of (by omega)
  have q7 : (k == 7) = false := bne_of (by omega)
  have q8 : (k == 8) = false := bne_of (by omega)
  have q9 : (k == 9) = false := bne_of (by omega)
  have q12 : (k == 12) = false := bne_of (by omega)
  have q13 : (k == 13) = false := bne_of (by omega)
  clear hva hvb e h1 h2 h4 h5 h10 h11 hk
  go_enter Try.func108, Try.ntmps108
  go_wp2
  go_ret
  exact ⟨by first | rfl | (simp [*]; done), Post.mk' (Ent.sep (S := _) inferInstance inferInstance) inferInstance⟩
end Go.Proofs.Ytobikkdnalnllaa
namespace Go.Proofs.Ytobikkdnalnllaa
open Go.RowKit SL
attribute [local go_sem] cell_blk frozen_blk lt_blk cell_at frozen_row lt_row
set_option linter.unusedVariables false
set_option linter.unusedSimpArgs false
def stV (x : St) : Value := .agg #[.int .i64 x.k, .int .i64 x.a, .int .i64 x.b]
def bdV (x : Bd) : Value := .slice x.p x.l.length x.c
set_option maxHeartbeats 1000000 in
theorem indexStep (S : HP) (w : World) [H : SepI w S] (A : Option Addr) (c : Nat) (l : List St) [r : Rd S A (cSts l)] (hn : l.length ≤ 1048576) (g : Nat) (lb : Array Value) (p : St → Bool) (eg : Enters g) (hp : ∀ x ∈ l, Pred S g lb (stV x) (p x)) :
    Calls Try.prog 146 #[.slice A l.length c, .func (.func g) #[] lb] w (IdxPost w S (l.any p)) := by
  obtain ⟨n, hn'⟩ : ∃ n, n = l.length := ⟨_, rfl⟩
  have HN := Hd.mk hn'
  have HP := Hd.mk hp
  rw [← hn'] at hn ⊢
  clear hn' hp
  unfold Enters at eg
  go_enter Try.func146, Try.ntmps146
  go_wp2
  go_loopw [8] (fun i wr => ∃ k : Nat, k ≤ n ∧ i = .int .i64 k ∧ Hd ((l.take k).any p = false) ∧ SepI wr S ∧ ExtI w wr) (fun i _ => n - (intOf i).toNat)
  case atStart => exact ⟨0, Nat.zero_le _, rfl, ⟨rfl⟩, inferInstance, inferInstance⟩
  case round =>
    obtain ⟨k, hk, rfl, HT, HS, HE⟩ := hrel
    by_cases hlt : k < n
    · obtain ⟨x, hx⟩ := get_ex (xs := l) (k := k) (by rw [← HN.out]; exact hlt)
      obtain ⟨b, off, rfl⟩ := r.addr H (j := k) (by rw [cSts_len, ← HN.out]; omega)
      have c1 := r.cell (cSts_get hx).1
      have c2 := r.cell (cSts_get hx).2.1
      have c3 := r.cell (cSts_get hx).2.2
      have hcall : ∀ W, SepI W S → Calls Try.prog g (#[.agg #[.int .i64 x.k, .int .i64 x.a, .int .i64 x.b]] ++ lb) W fun e w' => e = .returned (.bool (p x)) ∧ Post W S w' := HP.out x (List.mem_of_getElem? hx)
      have HX := Hd.mk hx
      clear hx
      cases hq : p x
      · rw [hq] at hcall
        have HQ := Hd.mk hq
        have HC := Hd.mk hcall
        clear hq hcall
        go_wp2_with ((with_reducible refine (HC.out _ inferInstance).mono ?_); rintro e w' ⟨rfl, HP'⟩; have HS2 := HP'.sep; have HE2 := HP'.ext; clear HP')
        go_roundw
        case rel => exact ⟨k + 1, by omega, by go_num, ⟨any_take_succ p HX.out HT.out HQ.out⟩, inferInstance, inferInstance⟩
        case measure => simp [intOf]; omega
      · rw [hq] at hcall
        have HQ := Hd.mk hq
        have HC := Hd.mk hcall
        clear hq hcall
        go_wp2_with ((with_reducible refine (HC.out _ inferInstance).mono ?_); rintro e w' ⟨rfl, HP'⟩; have HS2 := HP'.sep; have HE2 := HP'.ext; clear HP')
        go_ret
        exact ⟨k, rfl, fun _ => by omega, (fun h => by rw [any_hit p HX.out HQ.out] at h; cases h), Post.mk' inferInstance inferInstance⟩
    · have : k = n := by omega
      subst this
      go_wp2
      go_ret
      exact ⟨-1, rfl, (fun h => by have := HT.out; rw [HN.out, List.take_length, h] at this; cases this), (fun _ => by omega), Post.mk' inferInstance inferInstance⟩
theorem containsStep (S : HP) (w : World) [H : SepI w S] (A : Option Addr) (c : Nat) (l : List St) [r : Rd S A (cSts l)] (hn : l.length ≤ 1048576) (g : Nat) (lb : Array Value) (p : St → Bool) (v : Bool) (eg : Enters g) (hp : ∀ x ∈ l, Pred S g lb (stV x) (p x)) (hv : l.any p = v) :
    Calls Try.prog 127 #[.slice A l.length c, .func (.func g) #[] lb] w fun e w' => e = .returned (.bool v) ∧ Post w S w' := by
  have HP := Hd.mk hp
  have EG := Hd.mk eg
  have HV := Hd.mk hv
  clear hp eg hv
  cases v
  all_goals
    go_enter Try.func127, Try.ntmps127
    go_wp2_with (go_at_call 146; refine (indexStep _ _ _ _ l hn g lb p EG.out HP.out).mono ?_; rintro e w' ⟨r, rfl, h1, h2, HP'⟩; have HS2 := HP'.sep; have HE2 := HP'.ext; clear HP'; first | (have hr := h2 HV.out) | (have hr := h1 HV.out); clear h1 h2)
    go_ret
    exact ⟨by first | rfl | (simp; omega), Post.mk' inferInstance inferInstance⟩
set_option maxHeartbeats 1000000 in
theorem indexBody (S : HP) (w : World) [H : SepI w S] (A : Option Addr) (c : Nat) (l : List Bd) [r : Rd S A (cBds l)] (hn : l.length ≤ 1048576) (g : Nat) (lb : Array Value) (p : Bd → Bool) (eg : Enters g) (hp : ∀ x ∈ l, Pred S g lb (bdV x) (p x)) :
    Calls Try.prog 145 #[.slice A l.length c, .func (.func g) #[] lb] w (IdxPost w S (l.any p)) := by
  obtain ⟨n, hn'⟩ : ∃ n, n = l.length := ⟨_, rfl⟩
  have HN := Hd.mk hn'
  have HP := Hd.mk hp
  rw [← hn'] at hn ⊢
  clear hn' hp
  unfold Enters at eg
  go_enter Try.func145, Try.ntmps145
  go_wp2
  go_loopw [8] (fun i wr => ∃ k : Nat, k ≤ n ∧ i = .int .i64 k ∧ Hd ((l.take k).any p = false) ∧ SepI wr S ∧ ExtI w wr) (fun i _ => n - (intOf i).toNat)
  case atStart => exact ⟨0, Nat.zero_le _, rfl, ⟨rfl⟩, inferInstance, inferInstance⟩
  case round =>
    obtain ⟨k, hk, rfl, HT, HS, HE⟩ := hrel
    by_cases hlt : k < n
    · obtain ⟨x, hx⟩ := get_ex (xs := l) (k := k) (by rw [← HN.out]; exact hlt)
      obtain ⟨b, off, rfl⟩ := r.addr H (j := k) (by rw [cBds_len, ← HN.out]; omega)
      have c1 := r.cell (cBds_get hx)
      have hcall : ∀ W, SepI W S → Calls Try.prog g (#[.slice x.p x.l.length x.c] ++ lb) W fun e w' => e = .returned (.bool (p x)) ∧ Post W S w' := HP.out x (List.mem_of_getElem? hx)
      have HX := Hd.mk hx
      clear hx
      cases hq : p x
      · rw [hq] at hcall
        have HQ := Hd.mk hq
        have HC := Hd.mk hcall
        clear hq hcall
        go_wp2_with ((with_reducible refine (HC.out _ inferInstance).mono ?_); rintro e w' ⟨rfl, HP'⟩; have HS2 := HP'.sep; have HE2 := HP'.ext; clear HP')
        go_roundw
        case rel => exact ⟨k + 1, by omega, by go_num, ⟨any_take_succ p HX.out HT.out HQ.out⟩, inferInstance, inferInstance⟩
        case measure => simp [intOf]; omega
      · rw [hq] at hcall
        have HQ := Hd.mk hq
        have HC := Hd.mk hcall
        clear hq hcall
        go_wp2_with ((with_reducible refine (HC.out _ inferInstance).mono ?_); rintro e w' ⟨rfl, HP'⟩; have HS2 := HP'.sep; have HE2 := HP'.ext; clear HP')
        go_ret
        exact ⟨k, rfl, fun _ => by omega, (fun h => by rw [any_hit p HX.out HQ.out] at h; cases h), Post.mk' inferInstance inferInstance⟩
    · have : k = n := by omega
      subst this
      go_wp2
      go_ret
      exact ⟨-1, rfl, (fun h => by have := HT.out; rw [HN.out, List.take_length, h] at this; cases this), (fun _ => by omega), Post.mk' inferInstance inferInstance⟩
theorem containsBody (S : HP) (w : World) [H : SepI w S] (A : Option Addr) (c : Nat) (l : List Bd) [r : Rd S A (cBds l)] (hn : l.length ≤ 1048576) (g : Nat) (lb : Array Value) (p : Bd → Bool) (v : Bool) (eg : Enters g) (hp : ∀ x ∈ l, Pred S g lb (bdV x) (p x)) (hv : l.any p = v) :
    Calls Try.prog 125 #[.slice A l.length c, .func (.func g) #[] lb] w fun e w' => e = .returned (.bool v) ∧ Post w S w' := by
  have HP := Hd.mk hp
  have EG := Hd.mk eg
  have HV := Hd.mk hv
  clear hp eg hv
  cases v
  all_goals
    go_enter Try.func125, Try.ntmps125
    go_wp2_with (go_at_call 145; refine (indexBody _ _ _ _ l hn g lb p EG.out HP.out).mono ?_; rintro e w' ⟨r, rfl, h1, h2, HP'⟩; have HS2 := HP'.sep; have HE2 := HP'.ext; clear HP'; first | (have hr := h2 HV.out) | (have hr := h1 HV.out); clear h1 h2)
    go_ret
    exact ⟨by first | rfl | (simp; omega), Post.mk' inferInstance inferInstance⟩
theorem enters_step : Enters 128 := fun _ _ => by go_simp
theorem enters_body : Enters 126 := fun _ _ => by go_simp
/-- A valid body, a valid program. -/
def bodyB (n : Nat) (l : List St) : Bool := decide (l.length ≤ 8) && l.all (stepB · n)
def progB (L : List (List St)) : Bool := inB L.length 1 6 && L.all (bodyB L.length)
theorem isProgram11 (S : HP) (w : World) [H : SepI w S] (bp : Nat) (A : Option Addr) (c n : Nat) (hn : n ≤ 1048576) [HasBlk S bp (.cells #[.slice A n c] 31 (0, 0))] (x : St) (v : Bool) (hv : stepB x n = v) :
    Calls Try.prog 128 #[stV x, .pointer (some ⟨bp, 0, none⟩)] w fun e w' => e = .returned (.bool (!v)) ∧ Post w S w' := by
  have HV := Hd.mk hv
  clear hv
  unfold stV
  cases v
  all_goals
    go_enter Try.func128, Try.ntmps128
    go_wp2_with (go_at_call 129; refine (impl_isStep _ _ x n _ hn HV.out).mono ?_; rintro e w' ⟨rfl, HP'⟩; have HS2 := HP'.sep; have HE2 := HP'.ext; clear HP')
    go_ret
    exact ⟨rfl, Post.mk' (Ent.sep (S := _) inferInstance inferInstance) inferInstance⟩
theorem isProgram1 (S : HP) (w : World) [H : SepI w S] (bp : Nat) (A : Option Addr) (c n : Nat) (hn : n ≤ 1048576) [hb : HasBlk S bp (.cells #[.slice A n c] 31 (0, 0))] (x : Bd) [rx : Rd S x.p (cSts x.l)] (hx : x.l.length ≤ 1048576) (v : Bool) (hv : bodyB n x.l = v) :
    Calls Try.prog 126 #[bdV x, .pointer (some ⟨bp, 0, none⟩)] w fun e w' => e = .returned (.bool (!v)) ∧ Post w S w' := by
  unfold bdV
  have hmf : ∀ (fn : Fn) (first cap : Array Value) (w : World), (Instr.makeFunc fn first cap).run Try.prog w = .ok (.func fn first cap) w := fun _ _ _ _ => rfl
  have hp : ∀ y ∈ x.l, Pred S 128 #[.pointer (some ⟨bp, 0, none⟩)] (stV y) (!stepB y n) := fun y _ W HW => isProgram11 S W bp A c n hn y _ rfl
  have HP := Hd.mk hp
  clear hp
  unfold bodyB at hv
  by_cases h8 : x.l.length ≤ 8
  · rw [decide_eq_true h8, Bool.true_and] at hv
    have HV : Hd (x.l.any (fun y => !stepB y n) = !v) := ⟨by rw [any_not, hv]⟩
    obtain ⟨m, hm⟩ : ∃ m, m = x.l.length := ⟨_, rfl⟩
    have HM := Hd.mk hm
    rw [← hm] at h8 ⊢
    clear hv hm hx
    go_enter Try.func126, Try.ntmps126
    go_wp2_with fail
    rw [HM.out]
    refine (containsStep _ _ _ _ x.l (by rw [← HM.out]; omega) _ _ _ _ enters_step HP.out HV.out).mono ?_
    rintro e w' ⟨rfl, HP'⟩
    have HS2 := HP'.sep
    have HE2 := HP'.ext
    clear HP'
    go_wp2
    go_ret
    exact ⟨ret_b (by rw [decide_eq_false (by rw [← HM.out]; omega), Bool.false_or]), Post.mk' inferInstance inferInstance⟩
  · have : v = false := by rw [← hv, decide_eq_false h8, Bool.false_and]
    subst this
    have h8' : 8 < x.l.length := by omega
    clear hv h8
    go_enter Try.func126, Try.ntmps126
    go_wp2
    go_ret
    exact ⟨rfl, Post.mk' inferInstance inferInstance⟩
theorem impl_IsProgram (S : HP) (w : World) [H : SepI w S] (A : Option Addr) (c : Nat) (bs : List Bd) [r : Rd S A (cBds bs)] [B : Bodies S bs] (v : Bool) (hv : progB (bs.map (·.l)) = v) :
    Calls Try.prog 113 #[.agg #[.slice A bs.length c]] w fun e w' => e = .returned (.bool v) ∧ Post w S w' := by
  have hmf : ∀ (fn : Fn) (first cap : Array Value) (w : World), (Instr.makeFunc fn first cap).run Try.prog w = .ok (.func fn first cap) w := fun _ _ _ _ => rfl
  unfold progB at hv
  rw [List.length_map] at hv
  have hn := B.n
  have HB := Hd.mk B
  clear B
  cases hi : inB bs.length 1 6
  · have HI := Hd.mk hi
    rw [hi, Bool.false_and] at hv
    subst hv
    clear hi
    go_enter Try.func113, Try.ntmps113
    go_wp2_with (go_at_call 76; refine (impl_in _ _ _ _ _ HI.out).mono ?_; rintro e w' ⟨rfl, rfl⟩)
    go_ret
    exact ⟨rfl, Post.mk' (Ent.sep (S := _) inferInstance inferInstance) inferInstance⟩
  · have HI := Hd.mk hi
    rw [hi, Bool.true_and] at hv
    have HV : Hd (bs.any (fun x => !bodyB bs.length x.l) = !v) := ⟨by rw [any_not bs (fun x => bodyB bs.length x.l), ← hv, List.all_map]; rfl⟩
    clear hi hv
    go_enter Try.func113, Try.ntmps113
    go_wp2_with (go_at_call 76; refine (impl_in _ _ _ _ _ HI.out).mono ?_; rintro e w' ⟨rfl, rfl⟩)
    refine (containsBody _ _ _ _ bs hn _ _ (fun x => !bodyB bs.length x.l) _ enters_body (fun x hx W HW => ?_) HV.out).mono ?_
    · have := HB.out.rd x hx
      exact isProgram1 _ W _ A c bs.length hn x (HB.out.small x hx) _ rfl
    rintro e w' ⟨rfl, HP'⟩
    have HS2 := HP'.sep
    have HE2 := HP'.ext
    clear HP'
    go_wp2
    go_ret
    exact ⟨by simp, Post.mk' (Ent.sep (S := _) inferInstance inferInstance) inferInstance⟩
end Go.Proofs.Ytobikkdnalnllaa
namespace Go.Proofs.Ytobikkdnalnllaa
open Go.RowKit SL
attribute [local go_sem] cell_blk frozen_blk lt_blk cell_at frozen_row lt_row
set_option linter.unusedVariables false
set_option linter.unusedSimpArgs false
theorem all_take_succ {α : Type} {l : List α} {k : Nat} {x : α} (p : α → Bool) (h : l[k]? = some x) (h0 : (l.take k).all p = true) (h1 : p x = true) : (l.take (k + 1)).all p = true := by
  rw [take_succ_eq h, List.all_append, h0]; simp [h1]
theorem all_miss {α : Type} {l : List α} {k : Nat} {x : α} (p : α → Bool) (h : l[k]? = some x) (h1 : p x = false) : l.all p = false := by
  rw [← Bool.not_eq_true, List.all_eq_true]
  intro q
  rw [q x (List.mem_of_getElem? h)] at h1
  cases h1
set_option maxRecDepth 100000 in
set_option maxHeartbeats 4000000 in
theorem spec_l2Program (S : HP) (w : World) [H : SepI w S] (A : Option Addr) (c : Nat) (bs : List Bd) [r : Rd S A (cBds bs)] [B : Bodies S bs] :
    Calls Try.prog 96 #[.agg #[.slice A bs.length c]] w fun e w' => e = .returned (.bool (progB (bs.map (·.l)))) ∧ Post w S w' := by
  have hn := B.n
  have HB := Hd.mk B
  clear B
  obtain ⟨n, hn'⟩ : ∃ n, n = bs.length := ⟨_, rfl⟩
  have HN := Hd.mk hn'
  rw [← hn'] at hn ⊢
  have hP : progB (bs.map (·.l)) = (inB n 1 6 && bs.all (fun x => bodyB n x.l)) := by unfold progB; rw [List.length_map, List.all_map, ← hn']; rfl
  rw [hP]
  clear hn' hP
  cases hi : inB n 1 6
  · have HI := Hd.mk hi
    clear hi
    go_enter Try.func96, Try.ntmps96
    go_wp2_with (go_at_call 74; refine (spec_in _ _ _ _ _ HI.out).mono ?_; rintro e w' ⟨rfl, rfl⟩)
    go_ret
    exact ⟨rfl, Post.mk' (Ent.sep (S := _) inferInstance inferInstance) inferInstance⟩
  · have HI := Hd.mk hi
    have hn1 := inB_true hi
    clear hi
    go_enter Try.func96, Try.ntmps96
    go_wp2_with (go_at_call 74; refine (spec_in _ _ _ _ _ HI.out).mono ?_; rintro e w' ⟨rfl, rfl⟩)
    obtain ⟨g, hg⟩ : ∃ g, g = w.heap.size := ⟨_, rfl⟩
    have H1 : SepI (w.alloc (.cells #[.slice A n c] 31)) (pts g (.cells #[.slice A n c] 31 (0, 0)) * S) := by rw [hg]; infer_instance
    rw [← hg]
    have HG := Hd.mk hg
    clear hg
    go_loopw [3] (fun i wr => ∃ k : Nat, k ≤ n ∧ i = .int .i64 k ∧ Hd ((bs.take k).all (fun x => bodyB n x.l) = true) ∧ SepI wr (pts g (.cells #[.slice A n c] 31 (0, 0)) * S) ∧ ExtI w wr) (fun i _ => n - (intOf i).toNat)
    case atStart => exact ⟨0, Nat.zero_le _, rfl, ⟨rfl⟩, H1, inferInstance⟩
    case round =>
      obtain ⟨k, hk, rfl, HT, HS, HE⟩ := hrel
      by_cases hlt : k < n
      · obtain ⟨x, hx⟩ := get_ex (xs := bs) (k := k) (by rw [← HN.out]; exact hlt)
        obtain ⟨b, off, rfl⟩ := r.addr H (j := k) (by rw [cBds_len, ← HN.out]; omega)
        have c1 := r.cell (cBds_get hx)
        have rx := HB.out.rd x (List.mem_of_getElem? hx)
        have HX := Hd.mk hx
        clear hx
        obtain ⟨m, hm⟩ : ∃ m, m = x.l.length := ⟨_, rfl⟩
        have HM := Hd.mk hm
        rw [← hm] at c1
        clear hm
        by_cases h8 : m ≤ 8
        · go_wp2
          obtain ⟨wo, rfl⟩ : ∃ wo : World, wo = wr := ⟨_, rfl⟩
          go_loopw [4] (fun i wr => ∃ j : Nat, j ≤ m ∧ i = .int .i64 j ∧ Hd ((x.l.take j).all (stepB · n) = true) ∧ SepI wr (pts g (.cells #[.slice (some ⟨b, off, none⟩) n c] 31 (0, 0)) * S) ∧ ExtI w wr) (fun i _ => m - (intOf i).toNat)
          case atStart => exact ⟨0, Nat.zero_le _, rfl, ⟨rfl⟩, inferInstance, inferInstance⟩
          case round =>
            obtain ⟨j, hj, rfl, HT2, HS2, HE2⟩ := hrel
            by_cases hjt : j < m
            · obtain ⟨y, hy⟩ := get_ex (xs := x.l) (k := j) (by rw [← HM.out]; exact hjt)
              obtain ⟨p, hp⟩ : ∃ p, p = x.p := ⟨_, rfl⟩
              rw [← hp] at rx c1
              have HPX := Hd.mk hp
              clear hp
              obtain ⟨b', off', rfl⟩ := rx.addr H (j := j) (by rw [cSts_len, ← HM.out]; omega)
              have d1 := rx.cell (cSts_get hy).1
              have d2 := rx.cell (cSts_get hy).2.1
              have d3 := rx.cell (cSts_get hy).2.2
              have HY := Hd.mk hy
              clear hy
              cases hq : stepB y n
              · have HQ := Hd.mk hq
                clear hq
                go_wp2
                go_still_tail 9, (by kernel_rfl)
                change wpList _ _ _ _ _ wr.drew
                go_wp2_with (go_at_call 108; refine (spec_l2Step _ _ _ _ y n _ hn HQ.out).mono ?_; rintro e w' ⟨rfl, HP'⟩; have HS3 := HP'.sep; have HE3 := HP'.ext; clear HP')
                go_ret
                exact ⟨ret_b (by rw [all_miss (fun x => bodyB n x.l) HX.out (by unfold bodyB; rw [all_miss (stepB · n) HY.out HQ.out, Bool.and_false]), Bool.and_false]), Post.mk' (Ent.sep (S := _) inferInstance inferInstance) inferInstance⟩
              · have HQ := Hd.mk hq
                clear hq
                go_wp2
                go_still_tail 9, (by kernel_rfl)
                change wpList _ _ _ _ _ wr.drew
                go_wp2_with (go_at_call 108; refine (spec_l2Step _ _ _ _ y n _ hn HQ.out).mono ?_; rintro e w' ⟨rfl, HP'⟩; have HS3 := HP'.sep; have HE3 := HP'.ext; clear HP')
                go_roundw
                case rel => exact ⟨j + 1, by omega, by go_num, ⟨all_take_succ (stepB · n) HY.out HT2.out HQ.out⟩, inferInstance, inferInstance⟩
                case measure => simp [intOf]; omega
            · have : j = m := by omega
              subst this
              go_wp2
              go_roundw
              case rel => exact ⟨k + 1, by omega, by go_num, ⟨all_take_succ (fun x => bodyB n x.l) HX.out HT.out (by
                unfold bodyB
                have := HT2.out
                rw [HM.out, List.take_length] at this
                rw [this, Bool.and_true]
                exact decide_eq_true (by rw [← HM.out]; exact h8))⟩, HS2, HE2⟩
              case measure => simp [intOf]; omega
        · have h8' : 8 < m := by omega
          clear h8
          go_wp2
          go_ret
          exact ⟨ret_b (by rw [all_miss (fun x => bodyB n x.l) HX.out (by unfold bodyB; rw [decide_eq_false (by rw [← HM.out]; omega), Bool.false_and]), Bool.and_false]), Post.mk' (Ent.sep (S := _) inferInstance inferInstance) inferInstance⟩
      · have : k = n := by omega
        subst this
        go_wp2
        go_ret
        exact ⟨ret_b (by have := HT.out; rw [HN.out, List.take_length, ← HN.out] at this; rw [this]; rfl), Post.mk' (Ent.sep (S := _) inferInstance inferInstance) inferInstance⟩
end Go.Proofs.Ytobikkdnalnllaa
namespace Go.Proofs.Ytobikkdnalnllaa
open Go.RowKit SL
attribute [local go_sem] cell_blk frozen_blk lt_blk cell_at frozen_row lt_row
set_option linter.unusedVariables false
set_option linter.unusedSimpArgs false
theorem le_sum_of : ∀ {l : List Nat} {n : Nat}, n ∈ l → n ≤ l.sum
  | [], n, h => by cases h
  | m :: l, n, h => by
    rcases List.mem_cons.1 h with rfl | h
    · simp
    · have := le_sum_of h; simp; omega
theorem SzOk.small {bs : List Bd} {r : Int} (h : 0 ≤ r ∧ r + bs.length + ((bs.map fun x => x.l.length).sum : Nat) = 1048576) : bs.length ≤ 1048576 ∧ ∀ x ∈ bs, x.l.length ≤ 1048576 := by
  refine ⟨by omega, fun x hx => ?_⟩
  have : x.l.length ≤ (bs.map fun x => x.l.length).sum := le_sum_of (List.mem_map.2 ⟨x, hx, rfl⟩)
  omega
instance Rd.of_OwnP (A : Option Addr) (n c : Nat) (bs : List Bd) (F : HP) : Rd (OwnP (.slice A n c) bs * F) A (cBds bs) := ⟨fun w H => by
  by_cases hn : n = bs.length
  · subst hn
    have H1 : SepI w (Row 127 1 (.slice A bs.length c) bs.length (cBds bs) * (stars (bs.map OwnB) * F)) := by rw [← star_assoc]; exact H
    exact (Rd.of_row 127 1 A bs.length c (cBds bs) (stars (bs.map OwnB) * F)).out w H1
  · have H1 : SepI w (Row 127 1 (.slice A n c) bs.length (cBds bs) * (stars (bs.map OwnB) * F)) := by rw [← star_assoc]; exact H
    rcases Row.open H1 with ⟨hv, hl, _⟩ | ⟨g, cap, cur, hv, _⟩
    · injection hv with _ h2 _; omega
    · injection hv with _ h2 _; omega⟩
theorem Bodies.of_OwnP {v : Value} {bs : List Bd} (F : HP) (h : ∀ x ∈ bs, x.l.length ≤ 1048576) (hn : bs.length ≤ 1048576) : Bodies (OwnP v bs * F) bs := ⟨fun x hx => ⟨fun w H => by
  obtain ⟨R, hR⟩ := stars_pick (List.mem_map.2 ⟨x, hx, rfl⟩ : OwnB x ∈ bs.map OwnB)
  have H1 : SepI w (OwnB x * (Row 127 1 v bs.length (cBds bs) * (R * F))) := by
    refine SepI.cast H ?_
    unfold OwnP
    rw [hR]
    ac_rfl
  exact (Rd.of_row 141 3 x.p x.l.length x.c (cSts x.l) _).out w H1⟩, h, hn⟩
theorem small_of_map {bs bs' : List Bd} (h : bs'.map (·.l) = bs.map (·.l)) (hs : ∀ x ∈ bs, x.l.length ≤ 1048576) : ∀ x ∈ bs', x.l.length ≤ 1048576 := fun x hx => by
  have : x.l ∈ bs.map (·.l) := by rw [← h]; exact List.mem_map.2 ⟨x, hx, rfl⟩
  obtain ⟨y, hy, e⟩ := List.mem_map.1 this
  rw [← e]; exact hs y hy
theorem len_of_map {bs bs' : List Bd} (h : bs'.map (·.l) = bs.map (·.l)) : bs'.length = bs.length := by simpa using congrArg List.length h
theorem Bodies.own {v : Value} {bs bs' : List Bd} (h : bs'.map (·.l) = bs.map (·.l)) (hs : bs.length ≤ 1048576 ∧ ∀ x ∈ bs, x.l.length ≤ 1048576) : ∀ F, Bodies (OwnP v bs' * F) bs' := fun F =>
  Bodies.of_OwnP F (small_of_map h hs.2) (by rw [len_of_map h]; exact hs.1)
/-- The argument as it is read. -/
structure ArgP (S : HP) (A : Option Addr) (bs : List Bd) : Prop where
  rd : Rd S A (cBds bs)
  inner : ∀ x ∈ bs, Rd S x.p (cSts x.l)
  max : ∀ x ∈ bs, x.l.length ≤ maxLen
  n : bs.length ≤ maxLen
end Go.Proofs.Ytobikkdnalnllaa
namespace Go.Proofs.Ytobikkdnalnllaa
open Go.RowKit SL
attribute [local go_sem] cell_blk frozen_blk lt_blk cell_at frozen_row lt_row
set_option linter.unusedVariables false
set_option linter.unusedSimpArgs false
theorem mkSts_get (q : Int) : ∀ {n k : Nat}, k < n → (mkSts q n)[k]? = some ⟨q + 3 * k, q + 3 * k + 1, q + 3 * k + 1 + 1⟩
  | 0, k, h => by omega
  | n + 1, k, h => by
    by_cases hk : k < n
    · rw [mkSts, List.getElem?_append_left (by rw [mkSts_len]; exact hk)]; exact mkSts_get q hk
    · have : k = n := by omega
      subst this
      rw [mkSts, List.getElem?_append_right (by rw [mkSts_len]; exact Nat.le_refl _), mkSts_len, Nat.sub_self]
      rfl
/-- A program's marks: the bodies, and the last mark. -/
def mkQ (q : Int) : List Bd → Int
  | [] => q
  | b :: r => mkQ (q + 3 * b.l.length) r
def mkBds (q : Int) : List Bd → List Bd
  | [] => []
  | b :: r => ⟨b.p, b.c, mkSts q b.l.length⟩ :: mkBds (q + 3 * b.l.length) r
theorem mkQ_snoc (l : List Bd) (x : Bd) : ∀ q, mkQ q (l ++ [x]) = mkQ q l + 3 * x.l.length := by
  induction l with
  | nil => intro q; rfl
  | cons b r ih => intro q; exact ih _
theorem mkBds_snoc (l : List Bd) (x : Bd) : ∀ q, mkBds q (l ++ [x]) = mkBds q l ++ [⟨x.p, x.c, mkSts (mkQ q l) x.l.length⟩] := by
  induction l with
  | nil => intro q; rfl
  | cons b r ih => intro q; simp only [List.cons_append, mkBds, mkQ, ih]
theorem mkBds_len (l : List Bd) : ∀ q, (mkBds q l).length = l.length := by
  induction l with
  | nil => intro q; rfl
  | cons b r ih => intro q; simp [mkBds, ih]
theorem mkBds_cells (l : List Bd) : ∀ q, cBds (mkBds q l) = cBds l := by
  induction l with
  | nil => intro q; rfl
  | cons b r ih => intro q; simp only [mkBds, cBds, List.map_cons] at ih ⊢; rw [ih]; simp [cBd, mkSts_len]
theorem mkBds_get (l : List Bd) : ∀ (q : Int) {k : Nat} {x : Bd}, l[k]? = some x → (mkBds q l)[k]? = some ⟨x.p, x.c, mkSts (mkQ q (l.take k)) x.l.length⟩ := by
  induction l with
  | nil => intro q k x h; simp at h
  | cons b r ih =>
    intro q k x h
    cases k with
    | zero => simp at h; subst h; rfl
    | succ k => simp at h; exact ih _ h
theorem mkBds_small {l : List Bd} (h : ∀ x ∈ l, x.l.length ≤ 1048576) : ∀ q, ∀ x ∈ mkBds q l, x.l.length ≤ 1048576 := by
  intro q x hx
  obtain ⟨k, hk⟩ := List.getElem?_of_mem hx
  have hlt := (List.getElem?_eq_some_iff.1 hk).1
  rw [mkBds_len] at hlt
  obtain ⟨y, hy⟩ := get_ex hlt
  rw [mkBds_get l q hy] at hk
  injection hk with hk
  subst hk
  simp only [mkSts_len]
  exact h y (List.mem_of_getElem? hy)
theorem mkQ_nonneg (l : List Bd) : ∀ q : Int, 0 ≤ q → 0 ≤ mkQ q l := by
  induction l with
  | nil => intro q h; exact h
  | cons b r ih => intro q h; exact ih _ (by omega)
set_option maxRecDepth 100000 in
set_option maxHeartbeats 1000000 in
theorem markStepSSx (F : HP) (w : World) (A : Option Addr) (c : Nat) (bs : List Bd) [H : SepI w (OwnP (.slice A bs.length c) bs * F)] (hs : ∀ x ∈ bs, x.l.length ≤ 1048576) (hl : bs.length ≤ 1048576) :
    Calls Try.prog 59 #[.slice A bs.length c, .int .i64 1] w fun e w' => e = .returned (.int .i64 (mkQ 1 bs)) ∧ Post w (OwnP (.slice A bs.length c) (mkBds 1 bs) * F) w' := by
  obtain ⟨n, hn'⟩ : ∃ n, n = bs.length := ⟨_, rfl⟩
  have HN := Hd.mk hn'
  have HS0 := Hd.mk hs
  have H1 : SepI w (Row 127 1 (.slice A bs.length c) bs.length (cBds bs) * (stars (bs.map OwnB) * F)) := by rw [← star_assoc]; exact H
  clear H
  rw [← hn'] at hl H1 ⊢
  clear hn' hs
  go_enter Try.func59, Try.ntmps59
  go_wp2
  go_loopw [1, 5] (fun v i wr => ∃ (k : Nat) (q : Int), k ≤ n ∧ i = .int .i64 k ∧ v = .int .i64 q ∧ 0 ≤ q ∧ q ≤ 1 + 3145728 * k ∧ ExtI w wr ∧ Hd (mkQ 1 (bs.take k) = q) ∧
    SepI wr (Row 127 1 (.slice A n c) n (cBds bs) * (stars ((mkBds 1 (bs.take k) ++ bs.drop k).map OwnB) * F))) (fun _ i _ => n - (intOf i).toNat)
  case atStart => exact ⟨0, 1, Nat.zero_le _, rfl, rfl, by omega, by omega, inferInstance, ⟨rfl⟩, by simpa [mkBds] using H1⟩
  case round =>
    obtain ⟨k, q, hk, rfl, rfl, hq0, hq1, HX, HQ, HS⟩ := hrel
    by_cases hlt : k < n
    · obtain ⟨x, hx⟩ := get_ex (xs := bs) (k := k) (by rw [← HN.out]; exact hlt)
      obtain ⟨g, rfl⟩ := Row.addr HS (by omega)
      have d1 : CellAt _ g _ _ := Row.cellAt (e := 127) (size := 1) (g := g) (n := n) (c := c) (F := stars ((mkBds 1 (bs.take k) ++ bs.drop k).map OwnB) * F) (cBds_get hx)
      have sx := HS0.out x (List.mem_of_getElem? hx)
      have hd : bs.drop k = x :: bs.drop (k + 1) := by
        obtain ⟨hlt', e⟩ := List.getElem?_eq_some_iff.1 hx
        rw [List.drop_eq_getElem_cons hlt', e]
      have HG := Hd.mk hd
      have HGX := Hd.mk hx
      clear hx hd
      go_wp2_with fail
      have HS4 : SepI wr (Row 141 3 (.slice x.p x.l.length x.c) x.l.length (cSts x.l) * (Row 127 1 (.slice (some ⟨g, 0, none⟩) n c) n (cBds bs) * (stars ((mkBds 1 (bs.take k) ++ bs.drop (k + 1)).map OwnB) * F))) := by
        refine SepI.cast HS ?_
        rw [HG.out, stars_upd (mkBds 1 (bs.take k)) (bs.drop (k + 1)) x x, star_assoc]
        exact star_left _ _ _
      refine (@markStepS _ _ _ _ x.l HS4 q sx hq0 (by omega)).mono ?_
      rintro e w' ⟨rfl, HP'⟩
      have HS2 := HP'.sep
      have HE2 := HP'.ext
      clear HP' HS4
      go_wp2
      go_roundw
      case rel => exact ⟨k + 1, q + 3 * x.l.length, by omega, by go_num, rfl, by omega, by omega, inferInstance, ⟨by rw [take_succ_eq HGX.out, mkQ_snoc, HQ.out]⟩, SepI.cast HS2 (by
        rw [take_succ_eq HGX.out, mkBds_snoc, HQ.out, List.append_assoc, List.cons_append, List.nil_append, stars_upd (mkBds 1 (bs.take k)) (bs.drop (k + 1)) ⟨x.p, x.c, mkSts q x.l.length⟩ x]
        unfold OwnB
        simp only [mkSts_len]
        ac_rfl)⟩
      case measure => simp [intOf]; omega
    · have : k = n := by omega
      subst this
      go_wp2
      go_ret
      refine ⟨ret_i (by have := HQ.out; rw [HN.out, List.take_length] at this; exact this.symm), Post.mk' (SepI.cast HS ?_) HX⟩
      unfold OwnP
      rw [HN.out, List.take_length, List.drop_length, List.append_nil, mkBds_len, mkBds_cells, star_assoc]
theorem markProgramx (S F : HP) (w : World) (A : Option Addr) (c : Nat) (bs : List Bd) [H : SepI w S] [p : Pick S (OwnP (.slice A bs.length c) bs) F] (hs : ∀ x ∈ bs, x.l.length ≤ 1048576) (hl : bs.length ≤ 1048576) :
    Calls Try.prog 21 #[.agg #[.slice A bs.length c], .int .i64 1] w fun e w' => e = .returned (.int .i64 (mkQ 1 bs)) ∧ Post w (OwnP (.slice A bs.length c) (mkBds 1 bs) * F) w' := by
  go_enter Try.func21, Try.ntmps21
  go_wp2_with (go_at_call 59; refine (@markStepSSx _ _ _ _ bs (SepI.pick (S := _) inferInstance inferInstance) hs hl).mono ?_; rintro e w' ⟨rfl, HP'⟩; have HS2 := HP'.sep; have HE2 := HP'.ext; clear HP')
  go_ret
  exact ⟨rfl, Post.mk' (Ent.sep (S := _) inferInstance inferInstance) inferInstance⟩
end Go.Proofs.Ytobikkdnalnllaa
namespace Go.Proofs.Ytobikkdnalnllaa.SL
open Go.RowKit
set_option linter.unusedVariables false
section
variable {P : Program} {ops : Array Oper} {rest : List Oper} {o : Oper} {a : Act} {Q : Exit → Act → World → Prop}
theorem ev_appendG {w : World} {S F : HP} {e size n : Nat} {v : Value} {cs : List Value} [H : SepI w S] (hgd : o.guard = none) (s x : Operand) (t : TypeId)
    (ho : o.op = .call { callee := .builtin .append, args := #[s, x], argTypes := #[t, t] }) (hs : a.eval s = v) [p : PickR S e size v n cs F]
    (bytes : Nat) (z : Value) (ht : P.underlying t = some (.slice e)) (hinfo : (P.info? e).map (fun i => (i.zero, i.size, i.bytes)) = some (some z, size, bytes)) (hz : z.cells.size = size) (hsz : 0 < size) (hb0 : 0 < bytes)
    (ad : Addr) (m c : Nat) (hx : a.eval x = .slice (some ad) m c) {news : List Value} (hnews : ∀ j u, news[j]? = some u → w.cell? (ad.add j) = some u) (hl : news.length = m * size) (h1 : ∀ u ∈ news, u.oneCell' = true)
    (hbytes : (n + m) * bytes ≤ 140737488355328)
    (k : ∀ v1 w1, SepI w1 (Row e size v1 (n + m) (cs ++ news) * F) → (∀ u [ExtI u w], ExtI u w1) → wpList P ops Q rest (a.put o.dst v1) w1) : wpList P ops Q (o :: rest) a w := by
  obtain ⟨i0, hi, hzz⟩ := Option.map_eq_some_iff.1 hinfo
  simp only [Prod.mk.injEq] at hzz
  obtain ⟨hz0, hz1, hz2⟩ := hzz
  have HR := H.pickR p
  have hlen : n + m ≤ 140737488355328 := Nat.le_trans (Nat.le_mul_of_pos_right _ hb0) hbytes
  refine wpList_append_own_at w hgd s x t ho 0 e i0 z size bytes ht hi hz0 hz1 hz2 hz hsz v n cs hs (Row.own HR) ad m c news hx hl hnews h1 (by simp only [maxLen]; omega) hbytes (Nat.zero_le _) ?_
  intro v1 w1 hown hg _ hat
  refine k v1 w1 ?_ (fun u i => i.trans ⟨hg.os, hg.tape, hg.output, hg.size⟩)
  refine HR.turn fun h hh hk => ?_
  obtain ⟨hl1, ho1⟩ := hown
  obtain ⟨hl2, ho2⟩ := hh
  have frame : ∀ g, g < w.heap.size → h g = Option.none → w1.heap[g]? = w.heap[g]? := fun g hlt hn => hg.block g hlt (by
    rcases ho2 with ⟨rfl, _⟩ | ⟨g2, cap2, cur2, rfl, hg2, _⟩
    · simp [Value.ownBlock]
    · simp only [Value.ownBlock, ne_eq, Option.some.injEq]
      rintro rfl
      rw [hg2] at hn
      cases hn)
  rcases ho1 with ⟨rfl, hn0⟩ | ⟨g1, cap1, cur1, rfl, _, hg1, q1, q2, q3, q4⟩
  · exact ⟨fun _ => Option.none, ⟨hl1, .inl ⟨rfl, hn0⟩⟩, fun _ _ q => by simp at q, fun _ q => absurd rfl q, frame⟩
  · refine ⟨fun g => if g = g1 then some (.cells cur1 e (0, 0)) else Option.none, ⟨hl1, .inr ⟨g1, cap1, cur1, rfl, by simp, q1, q2, q3, q4⟩⟩, fun g u q => ?_, fun g q => ?_, frame⟩
    · by_cases eg : g = g1
      · subst eg; simp at q; subst q; exact hg1
      · simp [eg] at q
    · by_cases eg : g = g1
      · subst eg
        rcases hat with hat | hat
        · left
          rcases ho2 with ⟨rfl, _⟩ | ⟨g2, cap2, cur2, rfl, hg2, _⟩
          · simp [Value.ownBlock] at hat
          · simp only [Value.ownBlock, Option.some.injEq] at hat
            rw [hat, hg2]; simp
        · right
          simp only [Value.ownBlock, Option.some.injEq] at hat
          omega
      · simp [eg] at q
/-- append(v, x...): x a row that is read. -/
theorem ev_appendR {w : World} {S F : HP} {e size n : Nat} {v : Value} {cs : List Value} [H : SepI w S] (hgd : o.guard = none) (s x : Operand) (t : TypeId)
    (ho : o.op = .call { callee := .builtin .append, args := #[s, x], argTypes := #[t, t] }) (hs : a.eval s = v) [p : PickR S e size v n cs F]
    (bytes : Nat) (z : Value) (ht : P.underlying t = some (.slice e)) (hinfo : (P.info? e).map (fun i => (i.zero, i.size, i.bytes)) = some (some z, size, bytes)) (hz : z.cells.size = size) (hsz : 0 < size) (hb0 : 0 < bytes)
    (A : Option Addr) (m c : Nat) (hx : a.eval x = .slice A m c) {news : List Value} [rx : Rd S A news] (hA : A = none → m = 0 ∧ c = 0) (hl : news.length = m * size) (h1 : ∀ u ∈ news, u.oneCell' = true)
    (hbytes : (n + m) * bytes ≤ 140737488355328)
    (k : ∀ v1 w1, SepI w1 (Row e size v1 (n + m) (cs ++ news) * F) → (∀ u [ExtI u w], ExtI u w1) → wpList P ops Q rest (a.put o.dst v1) w1) : wpList P ops Q (o :: rest) a w := by
  cases A with
  | none =>
    obtain ⟨rfl, rfl⟩ := hA rfl
    have hn : news = [] := List.length_eq_zero_iff.1 (by rw [hl, Nat.zero_mul])
    obtain ⟨i0, hi, hzz⟩ := Option.map_eq_some_iff.1 hinfo
    simp only [Prod.mk.injEq] at hzz
    obtain ⟨hz0, hz1, hz2⟩ := hzz
    have HR := H.pickR p
    refine wpList_append_own_none hgd s x t ho 0 e i0 size ht hi v n cs hs (Row.own HR) hx (k v w ?_ (fun u i => i))
    rw [hn, List.append_nil]; exact HR
  | some ad =>
    refine ev_appendG hgd s x t ho hs bytes z ht hinfo hz hsz hb0 ad m c hx (fun j u hj => ?_) hl h1 hbytes k
    rcases rx.out w H with hn | ⟨b, off, hA', _, hc⟩
    · rw [hn] at hj; simp at hj
    · injection hA' with hA'
      subst hA'
      rw [show ((⟨b, off, none⟩ : Addr).add j) = ⟨b, off + j, none⟩ from by unfold Addr.add; split <;> simp_all]
      exact hc j u hj
end
end Go.Proofs.Ytobikkdnalnllaa.SL
namespace Go.Proofs.Ytobikkdnalnllaa
open Go.RowKit SL
attribute [local go_sem] cell_blk frozen_blk lt_blk cell_at frozen_row lt_row
set_option linter.unusedVariables false
set_option linter.unusedSimpArgs false
/-- The place where a number stands first, or -1. -/
def idxI : List Int → Int → Int
  | [], _ => -1
  | y :: l, x => if y = x then 0 else (if idxI l x < 0 then -1 else idxI l x + 1)
theorem idxI_no : ∀ {l : List Int} {x : Int}, l.contains x = false → idxI l x = -1
  | [], _, _ => rfl
  | y :: l, x, h => by
    rw [List.contains_cons, Bool.or_eq_false_iff] at h
    have hne : ¬ y = x := fun e => by have := h.1; subst e; simp at this
    rw [idxI, if_neg hne, idxI_no h.2]; rfl
theorem idxI_at : ∀ {l : List Int} {k : Nat} {x : Int}, l[k]? = some x → (l.take k).contains x = false → idxI l x = k
  | [], k, x, h, _ => by simp at h
  | y :: l, 0, x, h, _ => by simp at h; rw [idxI, if_pos h]; rfl
  | y :: l, k + 1, x, h, h0 => by
    rw [List.take_succ_cons, List.contains_cons, Bool.or_eq_false_iff] at h0
    have hne : ¬ y = x := fun e => by have := h0.1; subst e; simp at this
    rw [idxI, if_neg hne, idxI_at (by simpa using h) h0.2, if_neg (by omega)]; omega
theorem idxI_neg (l : List Int) (x : Int) : decide (idxI l x ≥ 0) = l.contains x := by
  cases h : l.contains x with
  | false => rw [idxI_no h]; rfl
  | true =>
    rw [List.contains_iff_mem] at h
    have key : ∀ l : List Int, x ∈ l → 0 ≤ idxI l x := by
      intro l
      induction l with
      | nil => intro h; cases h
      | cons y l ih =>
        intro h
        rw [idxI]
        split
        · omega
        · rcases List.mem_cons.1 h with rfl | h
          · exact absurd rfl ‹_›
          · have := ih h; rw [if_neg (by omega)]; omega
    simpa using key l h
theorem contains_take {l : List Int} {k : Nat} {x y : Int} (h : l[k]? = some y) (h0 : (l.take k).contains x = false) (hn : ¬ x = y) : (l.take (k + 1)).contains x = false := by
  rw [take_succ_eq h, ← Bool.not_eq_true, List.contains_iff_mem, List.mem_append, List.mem_singleton]
  rintro (h1 | h1)
  · rw [← List.contains_iff_mem, h0] at h1; cases h1
  · exact hn h1
/-- The empty row that a literal makes. -/
theorem Row.lit0 {w : World} {g : Nat} {e : TypeId} {size : Nat} {F : HP} (H : SepI w (pts g (.cells #[] e (0, 0)) * F)) : SepI w (Row e size (.slice (some ⟨g, 0, none⟩) 0 0) 0 [] * F) := by
  have := Row.close (size := size) (n := 0) (cap := 0) H (Nat.le_refl _) (Nat.zero_le _) (by simp)
  simpa using this
end Go.Proofs.Ytobikkdnalnllaa
namespace Go.Proofs.Ytobikkdnalnllaa.SL
open Go.RowKit
set_option linter.unusedVariables false
section
variable {P : Program} {ops : Array Oper} {o : Oper} {a : Act} {w : World} {K : Act → World → Prop} {Q : Exit → Act → World → Prop} {E : Prop}
/-- The post of one step that ends as it should. -/
def only (K : Act → World → Prop) (e : Exit) (a : Act) (w : World) : Prop := e = .normal ∧ K a w
theorem Oper.wp_only (h : o.wp P a w (only K .normal) (only K)) : o.wp P a w K Q := by
  unfold Oper.wp at *
  generalize (execOp a.eval o).run P w = r at *
  cases r with
  | ok n w' =>
    cases n with
    | value v => exact h.2
    | skip => exact h.2
    | defer d => exact h.2
    | row row args => exact Rows.mono h fun _ _ h => h.2
    | enter f args =>
      refine Calls.mono h fun e w'' h => ?_
      cases e with
      | returned v => exact h.2
      | panicked c => exact absurd h.1 (by intro h; cases h)
      | outgrown => obtain ⟨_, _, h1, _⟩ := h; cases h1
    | _ => exact h
  | halt x w' =>
    cases x with
    | panic v => exact absurd h.1 (by intro h; cases h)
    | _ => exact h
theorem st_list (hgd : o.guard = none) (h : wpList P ops (only K) [o] a w) : if Region.wanted o (yielded ops a.tmps) = true then Oper.wp P o a w K Q else E := by
  have hw : Region.wanted o (yielded ops a.tmps) = true := by simp [Region.wanted, hgd]
  rw [if_pos hw]
  unfold wpList at h
  rw [if_pos hw] at h
  rcases h with h | ⟨_, _, _, h1, _⟩
  · exact Oper.wp_only h
  · cases h1
end
end Go.Proofs.Ytobikkdnalnllaa.SL
namespace Go.Proofs.Ytobikkdnalnllaa.SL
open Go.RowKit
set_option linter.unusedVariables false
section
variable {P : Program} {ops : Array Oper} {Q : Exit → Act → World → Prop} {md : Region.Mode} {S : World → Prop}
/-- Whatever order is picked for the head (the operations below n), S holds behind each; behind it the others come. -/
def wpAnyT (P : Program) (md : Region.Mode) (ops : Array Oper) (Q : Exit → Act → World → Prop) (S : World → Prop) (n g : Nat) : Nat → Array Bool → Act → World → Prop
  | 0, listed, a, w => (∀ j ∈ Region.ready md ops listed, n ≤ j) ∧ wpAny P md ops Q g listed a w
  | fuel + 1, listed, a, w =>
    Region.ready md ops listed ≠ [] ∧ ∀ i ∈ Region.ready md ops listed, i < n ∧ wpOp P ops Q i (fun a' w' => S w' ∧ wpAnyT P md ops Q S n g fuel (listed.setIfInBounds i true) a' w') a w
theorem wpAny_of_T {n g : Nat} : ∀ (fuel : Nat) (listed : Array Bool) (a : Act) (w : World), wpAnyT P md ops Q S n g fuel listed a w → wpAny P md ops Q (fuel + g) listed a w
  | 0, _, _, _, h => by rw [Nat.zero_add]; exact h.2
  | fuel + 1, _, _, _, h => by
    rw [show fuel + 1 + g = (fuel + g) + 1 by omega]
    exact ⟨fun h0 => absurd h0 h.1, fun i hi => wpOp_mono (fun a' w' h' => wpAny_of_T fuel _ a' w' h'.2) (h.2 i hi).2⟩
theorem wpAnyT_first {n g i : Nat} {oi : Oper} {v : Value} (hi : ops[i]? = some oi) (hsel : ∀ (j : Nat) (o : Oper) cs b, ops[j]? = some o → o.op ≠ .select cs b)
    (hs : Region.sinkB md ops n = true) (hc : Region.chainB md ops n = true) (hn : n < ops.size) (hin : i < n)
    (hQ : ∀ c a w, Q (.panic c) (a.put oi.dst v) w → Q (.panic c) a w) :
    ∀ (fuel : Nat) (listed : Array Bool) (a : Act) (w : World), HeadInv md ops n listed →
      (∀ j oj, ops[j]? = some oj → j ≠ i → listed.getD j true = false → (∀ e ∈ oj.after, Region.binds md e = true → e.on ≠ i) → oi.apart ops oj = true) →
      i ∈ Region.ready md ops listed → YieldsIf P ops S oi v a → S w →
      wpAnyT P md ops Q S n g fuel (listed.setIfInBounds i true) (a.put oi.dst v) w → wpAnyT P md ops Q S n g (fuel + 1) listed a w := by
  intro fuel
  induction fuel with
  | zero =>
    intro listed a w inv _ hr hy hS H
    have hun := (mem_ready.1 hr).1
    refine ⟨fun h => (by rw [h] at hr; cases hr), fun j hj => ?_⟩
    have hjn : j < n := by
      rcases Nat.lt_or_ge j n with h | h
      · exact h
      · exact absurd hj (tail_waits hs hc hn inv _ i rfl hin hun j h)
    refine ⟨hjn, ?_⟩
    by_cases hji : j = i
    · subst hji; exact hy.wpOp hi hS ⟨hS, H⟩
    · have := H.1 j (ready_mono hj hji)
      omega
  | succ fuel ih =>
    intro listed a w inv hfree hr hy hS H
    have hun := (mem_ready.1 hr).1
    refine ⟨fun h => (by rw [h] at hr; cases hr), fun j hj => ?_⟩
    have hjn : j < n := by
      rcases Nat.lt_or_ge j n with h | h
      · exact h
      · exact absurd hj (tail_waits hs hc hn inv _ i rfl hin hun j h)
    refine ⟨hjn, ?_⟩
    by_cases hji : j = i
    · subst hji; exact hy.wpOp hi hS ⟨hS, H⟩
    · have h1 := (H.2 j (ready_mono hj hji)).2
      obtain ⟨hjun, oj, hoj, hall⟩ := mem_ready.1 hj
      have hnot : ∀ e ∈ oj.after, Region.binds md e = true → e.on ≠ i := fun e he hb heq => by
        have h1 := hall e he hb
        rw [heq, getD_both hun] at h1
        cases h1
      have h2 := wpOp_putIf hoj (hfree j oj hoj hji hjun hnot) (fun cs b => hsel i oi cs b hi) (fun cs b => hsel j oj cs b hoj) hQ hy h1
      have hfree' : ∀ k ok, ops[k]? = some ok → k ≠ i → (listed.setIfInBounds j true).getD k true = false →
          (∀ e ∈ ok.after, Region.binds md e = true → e.on ≠ i) → oi.apart ops ok = true := fun k ok hk hki hun hno => by
        refine hfree k ok hk hki ?_ hno
        by_cases hjk : j = k
        · subst hjk; exact hjun
        · rw [getD_set_ne true hjk] at hun; exact hun
      refine wpOp_mono (fun a' w' h3 => ⟨h3.2.1, ih (listed.setIfInBounds j true) a' w' (inv.set hj hjn) hfree' (ready_mono hr (Ne.symm hji)) h3.1 h3.2.1 ?_⟩) h2
      rw [Array.setIfInBounds_comm _ _ hji]
      exact h3.2.2
/-- Heads that are listed so far, as a Bool. -/
def headB (md : Region.Mode) (ops : Array Oper) (n : Nat) (listed : Array Bool) : Bool :=
  decide (listed.size = ops.size) && ((List.range ops.size).all fun j => match ops[j]? with
    | some oj => !listed.getD j true || oj.after.all fun e => !Region.binds md e || listed.getD e.on false
    | none => true) && ((List.range ops.size).all fun t => decide (t < n) || !listed.getD t true)
theorem headB_inv {n : Nat} {listed : Array Bool} (h : headB md ops n listed = true) : HeadInv md ops n listed := by
  unfold headB at h
  simp only [Bool.and_eq_true, decide_eq_true_eq, List.all_eq_true, List.mem_range] at h
  obtain ⟨⟨h1, h2⟩, h3⟩ := h
  refine ⟨h1, fun j oj hj hl e he hb => ?_, fun t ht htl => ?_⟩
  · have hjs := (Array.getElem?_eq_some_iff.1 hj).1
    have := h2 j hjs
    rw [hj] at this
    simp only [Bool.or_eq_true, Bool.not_eq_true'] at this
    have hlt : listed.getD j true = true := by
      cases hq : listed.getD j true with
      | true => rfl
      | false => rw [getD_both hq] at hl; cases hl
    rcases this with h | h
    · rw [hlt] at h; cases h
    · rw [Array.all_eq_true'] at h
      have := h e he
      rw [hb] at this
      simpa using this
  · have := h3 t htl
    simp only [Bool.or_eq_true, decide_eq_true_eq, Bool.not_eq_true'] at this
    rcases this with h | h
    · omega
    · exact h
/-- The region's form, as one Bool. -/
def tailB (md : Region.Mode) (ops : Array Oper) (n : Nat) : Bool := Region.noSelect ops && decide (n < ops.size) && Region.sinkB md ops n && Region.chainB md ops n
theorem wpAnyT_take {n g i : Nat} {oi : Oper} {v : Value} {fuel : Nat} {listed : Array Bool} {a : Act} {w : World} (hi : ops[i]? = some oi)
    (hb : tailB md ops n = true) (hd : headB md ops n listed = true) (hin : decide (i < n) = true) (hf : Region.free md ops listed i = true) (hr : (Region.ready md ops listed).contains i = true)
    (hQ : ∀ c a w, Q (.panic c) (a.put oi.dst v) w → Q (.panic c) a w) (hy : YieldsIf P ops S oi v a) (hS : S w)
    (h : wpAnyT P md ops Q S n g fuel (listed.setIfInBounds i true) (a.put oi.dst v) w) : wpAnyT P md ops Q S n g (fuel + 1) listed a w := by
  unfold tailB at hb
  simp only [Bool.and_eq_true, decide_eq_true_eq] at hb
  exact wpAnyT_first hi (Region.noSelect_spec hb.1.1.1) hb.1.2 hb.2 hb.1.1.2 (of_decide_eq_true hin) hQ fuel listed a w (headB_inv hd) (Region.free_spec hi hf) (by simpa using hr) hy hS h
def AllReadyT (P : Program) (md : Region.Mode) (ops : Array Oper) (Q : Exit → Act → World → Prop) (S : World → Prop) (n g fuel : Nat) (listed : Array Bool) (a : Act) (w : World) (rs : List Nat) : Prop :=
  ∀ i ∈ rs, i < n ∧ wpOp P ops Q i (fun a' w' => S w' ∧ wpAnyT P md ops Q S n g fuel (listed.setIfInBounds i true) a' w') a w
theorem wpAnyT_all {n g : Nat} {rs : List Nat} {fuel : Nat} {listed : Array Bool} {a : Act} {w : World} (hr : Region.ready md ops listed = rs) (hne : rs ≠ [])
    (h : AllReadyT P md ops Q S n g fuel listed a w rs) : wpAnyT P md ops Q S n g (fuel + 1) listed a w :=
  ⟨fun h0 => absurd (hr ▸ h0) hne, hr ▸ h⟩
theorem AllReadyT.nil {n g fuel : Nat} {listed : Array Bool} {a : Act} {w : World} : AllReadyT P md ops Q S n g fuel listed a w [] := fun _ h => by cases h
theorem AllReadyT.cons {n g fuel : Nat} {listed : Array Bool} {a : Act} {w : World} {i : Nat} {o : Oper} {rs : List Nat} (ho : ops[i]? = some o) (hin : decide (i < n) = true)
    (h : if Region.wanted o (yielded ops a.tmps) = true then Oper.wp P o a w (fun a' w' => S w' ∧ wpAnyT P md ops Q S n g fuel (listed.setIfInBounds i true) a' w') Q else False)
    (hs : AllReadyT P md ops Q S n g fuel listed a w rs) : AllReadyT P md ops Q S n g fuel listed a w (i :: rs) := by
  intro j hj
  rcases List.mem_cons.1 hj with rfl | hj
  · refine ⟨of_decide_eq_true hin, ?_⟩
    unfold wpOp
    simp only [ho]
    split
    · rename_i hw
      rw [if_pos hw] at h
      exact .inl h
    · rename_i hw
      rw [if_neg hw] at h
      exact h.elim
  · exact hs j hj
/-- All of the head has come up. -/
theorem wpAnyT_done {l : List Oper} {n : Nat} {listed : Array Bool} {a : Act} {w : World} (hq : Region.seqB md l.toArray (l.drop n).length n listed = true) (h : wpList P l.toArray Q (l.drop n) a w) :
    wpAnyT P md l.toArray Q S n (l.drop n).length 0 listed a w :=
  ⟨fun j hj => seqB_ready hq j hj, wpAny_of_seq (l.drop n) n listed a w (fun j => by simp [List.getElem?_drop]) hq h⟩
/-- The beginning. -/
theorem wp_region_T {id : Nat} {l : List Oper} {a : Act} {w : World} (n : Nat) (hm : P.follows .mixedOrders = true) (hb : tailB .any l.toArray n = true) (S : World → Prop) (hS : S w.drew)
    (h : S w.drew → wpAnyT P .any l.toArray Q S n (l.drop n).length n (Array.replicate l.toArray.size false) a w.drew) : (Code.region id l.toArray true).wp P Q a w := by
  refine wp_region_any hm ?_
  have := wpAny_of_T _ _ _ _ (h hS)
  unfold tailB at hb
  simp only [Bool.and_eq_true, decide_eq_true_eq] at hb
  rw [List.length_drop, show n + (l.length - n) = l.toArray.size from by have := hb.1.1.2; simp at this ⊢; omega] at this
  exact this
/-! The same over a list that is written out: an operation comes up as it stands there. -/
theorem wpAnyT_takeL {l : List Oper} {n g i : Nat} {oi : Oper} {v : Value} {fuel : Nat} {listed : Array Bool} {a : Act} {w : World} (hi : l[i]? = some oi)
    (hb : tailB md l.toArray n = true) (hd : headB md l.toArray n listed = true) (hin : decide (i < n) = true) (hf : Region.free md l.toArray listed i = true) (hr : (Region.ready md l.toArray listed).contains i = true)
    (hQ : ∀ c a w, Q (.panic c) (a.put oi.dst v) w → Q (.panic c) a w) (hy : YieldsIf P l.toArray S oi v a) (hS : S w)
    (h : wpAnyT P md l.toArray Q S n g fuel (listed.setIfInBounds i true) (a.put oi.dst v) w) : wpAnyT P md l.toArray Q S n g (fuel + 1) listed a w :=
  wpAnyT_take (i := i) (by simpa using hi) hb hd hin hf hr hQ hy hS h
/-- One operation alone may come up. -/
theorem wpAnyT_one {l : List Oper} {n g i : Nat} {o : Oper} {fuel : Nat} {listed : Array Bool} {a : Act} {w : World} (hr : Region.ready md l.toArray listed = [i]) (ho : l[i]? = some o) (hin : decide (i < n) = true)
    (h : ∀ K : Act → World → Prop, Hd (∀ a' w', S w' → (S w' → wpAnyT P md l.toArray Q S n g fuel (listed.setIfInBounds i true) a' w') → K a' w') →
      if Region.wanted o (yielded l.toArray a.tmps) = true then Oper.wp P o a w K Q else False) : wpAnyT P md l.toArray Q S n g (fuel + 1) listed a w := by
  refine wpAnyT_all hr (by simp) (AllReadyT.cons (o := o) (by simpa using ho) hin ?_ AllReadyT.nil)
  have h1 := h (fun a' w' => S w' ∧ wpAnyT P md l.toArray Q S n g fuel (listed.setIfInBounds i true) a' w') ⟨fun a' w' hs hw => ⟨hs, hw hs⟩⟩
  exact h1
/-- Two operations may come up. -/
theorem wpAnyT_two {l : List Oper} {n g i j : Nat} {o p : Oper} {fuel : Nat} {listed : Array Bool} {a : Act} {w : World} (hr : Region.ready md l.toArray listed = [i, j]) (ho : l[i]? = some o) (hp : l[j]? = some p) (hin : decide (i < n) = true) (hjn : decide (j < n) = true)
    (h : ∀ K : Act → World → Prop, Hd (∀ a' w', S w' → (S w' → wpAnyT P md l.toArray Q S n g fuel (listed.setIfInBounds i true) a' w') → K a' w') →
      if Region.wanted o (yielded l.toArray a.tmps) = true then Oper.wp P o a w K Q else False)
    (h2 : ∀ K : Act → World → Prop, Hd (∀ a' w', S w' → (S w' → wpAnyT P md l.toArray Q S n g fuel (listed.setIfInBounds j true) a' w') → K a' w') →
      if Region.wanted p (yielded l.toArray a.tmps) = true then Oper.wp P p a w K Q else False) : wpAnyT P md l.toArray Q S n g (fuel + 1) listed a w := by
  refine wpAnyT_all hr (by simp) (AllReadyT.cons (o := o) (by simpa using ho) hin ?_ (AllReadyT.cons (o := p) (by simpa using hp) hjn ?_ AllReadyT.nil))
  · exact h (fun a' w' => S w' ∧ wpAnyT P md l.toArray Q S n g fuel (listed.setIfInBounds i true) a' w') ⟨fun a' w' hs hw => ⟨hs, hw hs⟩⟩
  · exact h2 (fun a' w' => S w' ∧ wpAnyT P md l.toArray Q S n g fuel (listed.setIfInBounds j true) a' w') ⟨fun a' w' hs hw => ⟨hs, hw hs⟩⟩
end
/-- A cell of a block that is owned. -/
theorem cb {w : World} {S : HP} {g j : Nat} {cs : Array Value} {e : TypeId} {fz : Nat × Nat} {v : Value} [H : SepI w S] [h : HasBlk S g (.cells cs e fz)] (hv : cs[j]? = some v := by rfl) : w.cell? ⟨g, j, none⟩ = some v := (cell_blk _ _ _ _ _ _ _).trans hv
end Go.Proofs.Ytobikkdnalnllaa.SL
namespace Go.Proofs.Ytobikkdnalnllaa.SL
open Go.RowKit
set_option linter.unusedVariables false
section
variable {P : Program} {ops : Array Oper} {Q : Exit → Act → World → Prop} {md : Region.Mode} {S : World → Prop}
/-- All behind operation n wait for it. -/
def waitB (md : Region.Mode) (ops : Array Oper) (n : Nat) : Bool := (List.range ops.size).all fun t => decide (t ≤ n) || (List.range t).any fun j => decide (n ≤ j) && Region.waitsFor md ops t j
theorem tail_waits2 {n : Nat} {listed : Array Bool} (hs : Region.sinkB md ops n = true) (hc : waitB md ops n = true) (hn : n < ops.size) (inv : HeadInv md ops n listed) :
    ∀ (d i : Nat), n - i = d → i < n → listed.getD i true = false → ∀ t, n ≤ t → t ∉ Region.ready md ops listed := by
  intro d
  induction d using Nat.strongRecOn with
  | _ d ih =>
    intro i hd hi hun t ht hr
    obtain ⟨_, ot, hot, hall⟩ := mem_ready.1 hr
    have htlt : t < ops.size := (Array.getElem?_eq_some_iff.1 hot).1
    by_cases htn : t = n
    · subst htn
      have h1 := List.all_eq_true.1 hs i (List.mem_range.2 hi)
      obtain ⟨j, hj, hj2⟩ := List.any_eq_true.1 h1
      simp only [Bool.and_eq_true, decide_eq_true_eq] at hj2
      obtain ⟨oj, hoj, e, he, hb, hon⟩ := Region.waitsFor_spec hj2.2
      have hjle : j ≤ t := by have := List.mem_range.1 hj; omega
      by_cases hjt : j = t
      · subst hjt
        have : oj = ot := Option.some.inj (hoj.symm.trans hot)
        subst this
        have h2 := hall e he hb
        rw [hon, getD_both hun] at h2
        cases h2
      · cases hl : listed.getD j false with
        | true =>
          have h2 := inv.closed j oj hoj hl e he hb
          rw [hon, getD_both hun] at h2
          cases h2
        | false =>
          have hjs : j < listed.size := by rw [inv.size]; omega
          exact ih (t - j) (by omega) j rfl (by omega) (getD_in hjs hl) t (Nat.le_refl _) hr
    · have h1 := List.all_eq_true.1 hc t (List.mem_range.2 htlt)
      simp only [Bool.or_eq_true, decide_eq_true_eq] at h1
      rcases h1 with h1 | h1
      · omega
      · obtain ⟨j, hj, hj2⟩ := List.any_eq_true.1 h1
        have hjt := List.mem_range.1 hj
        simp only [Bool.and_eq_true, decide_eq_true_eq] at hj2
        obtain ⟨o', ho', e, he, hb, hon⟩ := Region.waitsFor_spec hj2.2
        have : o' = ot := Option.some.inj (ho'.symm.trans hot)
        subst this
        have h2 := hall e he hb
        rw [hon, getD_both (inv.tail j hj2.1 (by omega))] at h2
        cases h2
theorem wpAnyT_first2 {n g i : Nat} {oi : Oper} {v : Value} (hi : ops[i]? = some oi) (hsel : ∀ (j : Nat) (o : Oper) cs b, ops[j]? = some o → o.op ≠ .select cs b)
    (hs : Region.sinkB md ops n = true) (hc : waitB md ops n = true) (hn : n < ops.size) (hin : i < n)
    (hQ : ∀ c a w, Q (.panic c) (a.put oi.dst v) w → Q (.panic c) a w) :
    ∀ (fuel : Nat) (listed : Array Bool) (a : Act) (w : World), HeadInv md ops n listed →
      (∀ j oj, ops[j]? = some oj → j ≠ i → listed.getD j true = false → (∀ e ∈ oj.after, Region.binds md e = true → e.on ≠ i) → oi.apart ops oj = true) →
      i ∈ Region.ready md ops listed → YieldsIf P ops S oi v a → S w →
      wpAnyT P md ops Q S n g fuel (listed.setIfInBounds i true) (a.put oi.dst v) w → wpAnyT P md ops Q S n g (fuel + 1) listed a w := by
  intro fuel
  induction fuel with
  | zero =>
    intro listed a w inv _ hr hy hS H
    have hun := (mem_ready.1 hr).1
    refine ⟨fun h => (by rw [h] at hr; cases hr), fun j hj => ?_⟩
    have hjn : j < n := by
      rcases Nat.lt_or_ge j n with h | h
      · exact h
      · exact absurd hj (tail_waits2 hs hc hn inv _ i rfl hin hun j h)
    refine ⟨hjn, ?_⟩
    by_cases hji : j = i
    · subst hji; exact hy.wpOp hi hS ⟨hS, H⟩
    · have := H.1 j (ready_mono hj hji)
      omega
  | succ fuel ih =>
    intro listed a w inv hfree hr hy hS H
    have hun := (mem_ready.1 hr).1
    refine ⟨fun h => (by rw [h] at hr; cases hr), fun j hj => ?_⟩
    have hjn : j < n := by
      rcases Nat.lt_or_ge j n with h | h
      · exact h
      · exact absurd hj (tail_waits2 hs hc hn inv _ i rfl hin hun j h)
    refine ⟨hjn, ?_⟩
    by_cases hji : j = i
    · subst hji; exact hy.wpOp hi hS ⟨hS, H⟩
    · have h1 := (H.2 j (ready_mono hj hji)).2
      obtain ⟨hjun, oj, hoj, hall⟩ := mem_ready.1 hj
      have hnot : ∀ e ∈ oj.after, Region.binds md e = true → e.on ≠ i := fun e he hb heq => by
        have h1 := hall e he hb
        rw [heq, getD_both hun] at h1
        cases h1
      have h2 := wpOp_putIf hoj (hfree j oj hoj hji hjun hnot) (fun cs b => hsel i oi cs b hi) (fun cs b => hsel j oj cs b hoj) hQ hy h1
      have hfree' : ∀ k ok, ops[k]? = some ok → k ≠ i → (listed.setIfInBounds j true).getD k true = false →
          (∀ e ∈ ok.after, Region.binds md e = true → e.on ≠ i) → oi.apart ops ok = true := fun k ok hk hki hun hno => by
        refine hfree k ok hk hki ?_ hno
        by_cases hjk : j = k
        · subst hjk; exact hjun
        · rw [getD_set_ne true hjk] at hun; exact hun
      refine wpOp_mono (fun a' w' h3 => ⟨h3.2.1, ih (listed.setIfInBounds j true) a' w' (inv.set hj hjn) hfree' (ready_mono hr (Ne.symm hji)) h3.1 h3.2.1 ?_⟩) h2
      rw [Array.setIfInBounds_comm _ _ hji]
      exact h3.2.2
/-- The region's form, as one Bool. -/
def tailB2 (md : Region.Mode) (ops : Array Oper) (n : Nat) : Bool := Region.noSelect ops && decide (n < ops.size) && Region.sinkB md ops n && waitB md ops n
theorem wpAnyT_take2 {n g i : Nat} {oi : Oper} {v : Value} {fuel : Nat} {listed : Array Bool} {a : Act} {w : World} (hi : ops[i]? = some oi)
    (hb : tailB2 md ops n = true) (hd : headB md ops n listed = true) (hin : decide (i < n) = true) (hf : Region.free md ops listed i = true) (hr : (Region.ready md ops listed).contains i = true)
    (hQ : ∀ c a w, Q (.panic c) (a.put oi.dst v) w → Q (.panic c) a w) (hy : YieldsIf P ops S oi v a) (hS : S w)
    (h : wpAnyT P md ops Q S n g fuel (listed.setIfInBounds i true) (a.put oi.dst v) w) : wpAnyT P md ops Q S n g (fuel + 1) listed a w := by
  unfold tailB2 at hb
  simp only [Bool.and_eq_true, decide_eq_true_eq] at hb
  exact wpAnyT_first2 hi (Region.noSelect_spec hb.1.1.1) hb.1.2 hb.2 hb.1.1.2 (of_decide_eq_true hin) hQ fuel listed a w (headB_inv hd) (Region.free_spec hi hf) (by simpa using hr) hy hS h
/-- The beginning. -/
theorem wp_region_T2 {id : Nat} {l : List Oper} {a : Act} {w : World} (n : Nat) (hm : P.follows .mixedOrders = true) (hb : tailB2 .any l.toArray n = true) (S : World → Prop) (hS : S w.drew)
    (h : S w.drew → wpAnyT P .any l.toArray Q S n (l.drop n).length n (Array.replicate l.toArray.size false) a w.drew) : (Code.region id l.toArray true).wp P Q a w := by
  refine wp_region_any hm ?_
  have := wpAny_of_T _ _ _ _ (h hS)
  unfold tailB2 at hb
  simp only [Bool.and_eq_true, decide_eq_true_eq] at hb
  rw [List.length_drop, show n + (l.length - n) = l.toArray.size from by have := hb.1.1.2; simp at this ⊢; omega] at this
  exact this
theorem wpAnyT_takeL2 {l : List Oper} {n g i : Nat} {oi : Oper} {v : Value} {fuel : Nat} {listed : Array Bool} {a : Act} {w : World} (hi : l[i]? = some oi)
    (hb : tailB2 md l.toArray n = true) (hd : headB md l.toArray n listed = true) (hin : decide (i < n) = true) (hf : Region.free md l.toArray listed i = true) (hr : (Region.ready md l.toArray listed).contains i = true)
    (hQ : ∀ c a w, Q (.panic c) (a.put oi.dst v) w → Q (.panic c) a w) (hy : YieldsIf P l.toArray S oi v a) (hS : S w)
    (h : wpAnyT P md l.toArray Q S n g fuel (listed.setIfInBounds i true) (a.put oi.dst v) w) : wpAnyT P md l.toArray Q S n g (fuel + 1) listed a w :=
  wpAnyT_take2 (i := i) (by simpa using hi) hb hd hin hf hr hQ hy hS h
/-- The operation at which all meet. -/
theorem wpAnyT_bar {l : List Oper} {n g k : Nat} {o : Oper} {listed : Array Bool} {a : Act} {w : World} (hg : g = k + 1) (hr : Region.ready md l.toArray listed = [n]) (ho : l[n]? = some o)
    (h : ∀ K : Act → World → Prop, Hd (∀ a' w', wpAny P md l.toArray Q k (listed.setIfInBounds n true) a' w' → K a' w') →
      if Region.wanted o (yielded l.toArray a.tmps) = true then Oper.wp P o a w K Q else False) : wpAnyT P md l.toArray Q S n g 0 listed a w := by
  subst hg
  refine ⟨fun j hj => ?_, fun h0 => (by rw [hr] at h0; cases h0), fun i hi => ?_⟩
  · rw [hr] at hj; rw [List.mem_singleton.1 hj]; exact Nat.le_refl _
  · rw [hr] at hi
    rw [List.mem_singleton.1 hi]
    have h1 := h (wpAny P md l.toArray Q k (listed.setIfInBounds n true)) ⟨fun _ _ h => h⟩
    unfold wpOp
    have ho' : l.toArray[n]? = some o := by simpa using ho
    simp only [ho']
    split
    · rename_i hw; rw [if_pos hw] at h1; exact .inl h1
    · rename_i hw; rw [if_neg hw] at h1; exact h1.elim
theorem wpAny_T {l : List Oper} {n k : Nat} {listed : Array Bool} {a : Act} {w : World} (f : Nat) (hk : k = f + (l.drop n).length) (h : wpAnyT P md l.toArray Q S n (l.drop n).length f listed a w) : wpAny P md l.toArray Q k listed a w := by
  subst hk
  exact wpAny_of_T _ _ _ _ h
end
end Go.Proofs.Ytobikkdnalnllaa.SL
namespace Go.Proofs.Ytobikkdnalnllaa.SL
open Go.RowKit
set_option linter.unusedVariables false
section
variable {P : Program} {ops : Array Oper} {Q : Exit → Act → World → Prop} {md : Region.Mode} {S : World → Prop}
/-- S holds, or operation b has come up. -/
def upTo (S : World → Prop) (x : Bool) (w : World) : Prop := x = true ∨ S w
def wpAnyW (P : Program) (md : Region.Mode) (ops : Array Oper) (Q : Exit → Act → World → Prop) (S : World → Prop) (b n g : Nat) : Nat → Array Bool → Act → World → Prop
  | 0, listed, a, w => (∀ j ∈ Region.ready md ops listed, n ≤ j) ∧ wpAny P md ops Q g listed a w
  | fuel + 1, listed, a, w =>
    Region.ready md ops listed ≠ [] ∧ ∀ i ∈ Region.ready md ops listed, i < n ∧ wpOp P ops Q i (fun a' w' => upTo S ((listed.setIfInBounds i true).getD b false) w' ∧ wpAnyW P md ops Q S b n g fuel (listed.setIfInBounds i true) a' w') a w
theorem wpAny_of_W {b n g : Nat} : ∀ (fuel : Nat) (listed : Array Bool) (a : Act) (w : World), wpAnyW P md ops Q S b n g fuel listed a w → wpAny P md ops Q (fuel + g) listed a w
  | 0, _, _, _, h => by rw [Nat.zero_add]; exact h.2
  | fuel + 1, _, _, _, h => by
    rw [show fuel + 1 + g = (fuel + g) + 1 by omega]
    exact ⟨fun h0 => absurd h0 h.1, fun i hi => wpOp_mono (fun a' w' h' => wpAny_of_W fuel _ a' w' h'.2) (h.2 i hi).2⟩
theorem wpAnyW_first {b n g i : Nat} {oi : Oper} {v : Value} {T : World → Prop} (hi : ops[i]? = some oi) (hsel : ∀ (j : Nat) (o : Oper) cs b, ops[j]? = some o → o.op ≠ .select cs b)
    (hs : Region.sinkB md ops n = true) (hc : Region.chainB md ops n = true) (hn : n < ops.size) (hin : i < n) (hib : i ≠ b) (hT0 : ∀ w, S w → T w) (hT1 : Region.waitsFor md ops b i = true ∨ (∀ w, T w) ∨ decide (ops.size ≤ b) = true)
    (hQ : ∀ c a w, Q (.panic c) (a.put oi.dst v) w → Q (.panic c) a w) :
    ∀ (fuel : Nat) (listed : Array Bool) (a : Act) (w : World), HeadInv md ops n listed →
      (∀ j oj, ops[j]? = some oj → j ≠ i → listed.getD j true = false → (∀ e ∈ oj.after, Region.binds md e = true → e.on ≠ i) → oi.apart ops oj = true) →
      i ∈ Region.ready md ops listed → YieldsIf P ops T oi v a → upTo S (listed.getD b false) w →
      wpAnyW P md ops Q S b n g fuel (listed.setIfInBounds i true) (a.put oi.dst v) w → wpAnyW P md ops Q S b n g (fuel + 1) listed a w := by
  have val : ∀ (listed : Array Bool) (w : World), HeadInv md ops n listed → listed.getD i true = false → upTo S (listed.getD b false) w → T w := fun listed w inv hun h => by
    rcases h with h | h
    · rcases hT1 with h1 | h1 | h1
      · obtain ⟨ob, hob, e, he, hb, hon⟩ := Region.waitsFor_spec h1
        have h2 := inv.closed b ob hob h e he hb
        rw [hon, getD_both hun] at h2
        cases h2
      · exact h1 w
      · have := of_decide_eq_true h1
        have e : listed.getD b false = false := by simp [Array.getElem?_eq_none (by rw [inv.size]; exact this)]
        rw [e] at h; cases h
    · exact hT0 w h
  have bit : ∀ (listed : Array Bool), (listed.setIfInBounds i true).getD b false = listed.getD b false := fun listed => getD_set_ne false hib
  intro fuel
  induction fuel with
  | zero =>
    intro listed a w inv _ hr hy hS H
    have hun := (mem_ready.1 hr).1
    refine ⟨fun h => (by rw [h] at hr; cases hr), fun j hj => ?_⟩
    have hjn : j < n := by
      rcases Nat.lt_or_ge j n with h | h
      · exact h
      · exact absurd hj (tail_waits hs hc hn inv _ i rfl hin hun j h)
    refine ⟨hjn, ?_⟩
    by_cases hji : j = i
    · subst hji; exact hy.wpOp hi (val _ _ inv hun hS) ⟨by rw [bit]; exact hS, H⟩
    · have := H.1 j (ready_mono hj hji)
      omega
  | succ fuel ih =>
    intro listed a w inv hfree hr hy hS H
    have hun := (mem_ready.1 hr).1
    refine ⟨fun h => (by rw [h] at hr; cases hr), fun j hj => ?_⟩
    have hjn : j < n := by
      rcases Nat.lt_or_ge j n with h | h
      · exact h
      · exact absurd hj (tail_waits hs hc hn inv _ i rfl hin hun j h)
    refine ⟨hjn, ?_⟩
    by_cases hji : j = i
    · subst hji; exact hy.wpOp hi (val _ _ inv hun hS) ⟨by rw [bit]; exact hS, H⟩
    · have h1 := (H.2 j (ready_mono hj hji)).2
      obtain ⟨hjun, oj, hoj, hall⟩ := mem_ready.1 hj
      have hnot : ∀ e ∈ oj.after, Region.binds md e = true → e.on ≠ i := fun e he hb heq => by
        have h1 := hall e he hb
        rw [heq, getD_both hun] at h1
        cases h1
      have h2 := wpOp_putIf hoj (hfree j oj hoj hji hjun hnot) (fun cs b => hsel i oi cs b hi) (fun cs b => hsel j oj cs b hoj) hQ hy h1
      have hfree' : ∀ k ok, ops[k]? = some ok → k ≠ i → (listed.setIfInBounds j true).getD k true = false →
          (∀ e ∈ ok.after, Region.binds md e = true → e.on ≠ i) → oi.apart ops ok = true := fun k ok hk hki hun hno => by
        refine hfree k ok hk hki ?_ hno
        by_cases hjk : j = k
        · subst hjk; exact hjun
        · rw [getD_set_ne true hjk] at hun; exact hun
      refine wpOp_mono (fun a' w' h3 => ?_) h2
      obtain ⟨g1, g2, g3⟩ := h3
      rw [Array.setIfInBounds_comm _ _ (Ne.symm hji), bit] at g2
      refine ⟨g2, ih (listed.setIfInBounds j true) a' w' (inv.set hj hjn) hfree' (ready_mono hr (Ne.symm hji)) g1 g2 ?_⟩
      rw [Array.setIfInBounds_comm _ _ hji]
      exact g3
theorem wpAnyW_takeL {l : List Oper} {b n g i : Nat} {oi : Oper} {v : Value} {fuel : Nat} {listed : Array Bool} {a : Act} {w : World} (T : World → Prop) (hi : l[i]? = some oi)
    (hb : tailB md l.toArray n = true) (hd : headB md l.toArray n listed = true) (hin : (decide (i < n) && !decide (i = b)) = true) (hf : Region.free md l.toArray listed i = true) (hr : (Region.ready md l.toArray listed).contains i = true)
    (hT0 : ∀ w, S w → T w) (hT1 : Region.waitsFor md l.toArray b i = true ∨ (∀ w, T w) ∨ decide (l.toArray.size ≤ b) = true)
    (hQ : ∀ c a w, Q (.panic c) (a.put oi.dst v) w → Q (.panic c) a w) (hy : YieldsIf P l.toArray T oi v a) (hS : upTo S (listed.getD b false) w)
    (h : wpAnyW P md l.toArray Q S b n g fuel (listed.setIfInBounds i true) (a.put oi.dst v) w) : wpAnyW P md l.toArray Q S b n g (fuel + 1) listed a w := by
  unfold tailB at hb
  simp only [Bool.and_eq_true, decide_eq_true_eq, Bool.not_eq_true', decide_eq_false_iff_not] at hb hin
  exact wpAnyW_first (i := i) (by simpa using hi) (Region.noSelect_spec hb.1.1.1) hb.1.2 hb.2 hb.1.1.2 hin.1 hin.2 hT0 hT1 hQ fuel listed a w (headB_inv hd) (Region.free_spec (by simpa using hi) hf) (by simpa using hr) hy hS h
def AllReadyW (P : Program) (md : Region.Mode) (ops : Array Oper) (Q : Exit → Act → World → Prop) (S : World → Prop) (b n g fuel : Nat) (listed : Array Bool) (a : Act) (w : World) (rs : List Nat) : Prop :=
  ∀ i ∈ rs, i < n ∧ wpOp P ops Q i (fun a' w' => upTo S ((listed.setIfInBounds i true).getD b false) w' ∧ wpAnyW P md ops Q S b n g fuel (listed.setIfInBounds i true) a' w') a w
theorem wpAnyW_all {b n g : Nat} {rs : List Nat} {fuel : Nat} {listed : Array Bool} {a : Act} {w : World} (hr : Region.ready md ops listed = rs) (hne : rs ≠ [])
    (h : AllReadyW P md ops Q S b n g fuel listed a w rs) : wpAnyW P md ops Q S b n g (fuel + 1) listed a w :=
  ⟨fun h0 => absurd (hr ▸ h0) hne, hr ▸ h⟩
theorem AllReadyW.nil {b n g fuel : Nat} {listed : Array Bool} {a : Act} {w : World} : AllReadyW P md ops Q S b n g fuel listed a w [] := fun _ h => by cases h
theorem AllReadyW.cons {b n g fuel : Nat} {listed : Array Bool} {a : Act} {w : World} {i : Nat} {o : Oper} {rs : List Nat} (ho : ops[i]? = some o) (hin : decide (i < n) = true)
    (h : if Region.wanted o (yielded ops a.tmps) = true then Oper.wp P o a w (fun a' w' => upTo S ((listed.setIfInBounds i true).getD b false) w' ∧ wpAnyW P md ops Q S b n g fuel (listed.setIfInBounds i true) a' w') Q else False)
    (hs : AllReadyW P md ops Q S b n g fuel listed a w rs) : AllReadyW P md ops Q S b n g fuel listed a w (i :: rs) := by
  intro j hj
  rcases List.mem_cons.1 hj with rfl | hj
  · refine ⟨of_decide_eq_true hin, ?_⟩
    unfold wpOp
    simp only [ho]
    split
    · rename_i hw
      rw [if_pos hw] at h
      exact .inl h
    · rename_i hw
      rw [if_neg hw] at h
      exact h.elim
  · exact hs j hj
theorem wpAnyW_done {l : List Oper} {b n : Nat} {listed : Array Bool} {a : Act} {w : World} (hq : Region.seqB md l.toArray (l.drop n).length n listed = true) (h : wpList P l.toArray Q (l.drop n) a w) :
    wpAnyW P md l.toArray Q S b n (l.drop n).length 0 listed a w :=
  ⟨fun j hj => seqB_ready hq j hj, wpAny_of_seq (l.drop n) n listed a w (fun j => by simp [List.getElem?_drop]) hq h⟩
theorem wp_region_W {id : Nat} {l : List Oper} {a : Act} {w : World} (n b : Nat) (hm : P.follows .mixedOrders = true) (hb : tailB .any l.toArray n = true) (S : World → Prop) (hS : S w.drew)
    (h : upTo S false w.drew → wpAnyW P .any l.toArray Q S b n (l.drop n).length n (Array.replicate l.toArray.size false) a w.drew) : (Code.region id l.toArray true).wp P Q a w := by
  refine wp_region_any hm ?_
  have := wpAny_of_W _ _ _ _ (h (.inr hS))
  unfold tailB at hb
  simp only [Bool.and_eq_true, decide_eq_true_eq] at hb
  rw [List.length_drop, show n + (l.length - n) = l.toArray.size from by have := hb.1.1.2; simp at this ⊢; omega] at this
  exact this
theorem wpAnyW_one {l : List Oper} {b n g i : Nat} {o : Oper} {fuel : Nat} {listed : Array Bool} {a : Act} {w : World} (x : Bool) (hr : Region.ready md l.toArray listed = [i]) (ho : l[i]? = some o) (hin : decide (i < n) = true) (hx : (listed.setIfInBounds i true).getD b false = x)
    (h : ∀ K : Act → World → Prop, Hd (∀ a' w', upTo S x w' → (upTo S x w' → wpAnyW P md l.toArray Q S b n g fuel (listed.setIfInBounds i true) a' w') → K a' w') →
      if Region.wanted o (yielded l.toArray a.tmps) = true then Oper.wp P o a w K Q else False) : wpAnyW P md l.toArray Q S b n g (fuel + 1) listed a w := by
  refine wpAnyW_all hr (by simp) (AllReadyW.cons (o := o) (by simpa using ho) hin ?_ AllReadyW.nil)
  rw [hx]
  exact h (fun a' w' => upTo S x w' ∧ wpAnyW P md l.toArray Q S b n g fuel (listed.setIfInBounds i true) a' w') ⟨fun a' w' hs hw => ⟨hs, hw hs⟩⟩
theorem wpAnyW_two {l : List Oper} {b n g i j : Nat} {o p : Oper} {fuel : Nat} {listed : Array Bool} {a : Act} {w : World} (x y : Bool) (hr : Region.ready md l.toArray listed = [i, j]) (ho : l[i]? = some o) (hp : l[j]? = some p) (hin : decide (i < n) = true) (hjn : decide (j < n) = true)
    (hx : (listed.setIfInBounds i true).getD b false = x) (hy : (listed.setIfInBounds j true).getD b false = y)
    (h : ∀ K : Act → World → Prop, Hd (∀ a' w', upTo S x w' → (upTo S x w' → wpAnyW P md l.toArray Q S b n g fuel (listed.setIfInBounds i true) a' w') → K a' w') →
      if Region.wanted o (yielded l.toArray a.tmps) = true then Oper.wp P o a w K Q else False)
    (h2 : ∀ K : Act → World → Prop, Hd (∀ a' w', upTo S y w' → (upTo S y w' → wpAnyW P md l.toArray Q S b n g fuel (listed.setIfInBounds j true) a' w') → K a' w') →
      if Region.wanted p (yielded l.toArray a.tmps) = true then Oper.wp P p a w K Q else False) : wpAnyW P md l.toArray Q S b n g (fuel + 1) listed a w := by
  refine wpAnyW_all hr (by simp) (AllReadyW.cons (o := o) (by simpa using ho) hin ?_ (AllReadyW.cons (o := p) (by simpa using hp) hjn ?_ AllReadyW.nil))
  · rw [hx]
    exact h (fun a' w' => upTo S x w' ∧ wpAnyW P md l.toArray Q S b n g fuel (listed.setIfInBounds i true) a' w') ⟨fun a' w' hs hw => ⟨hs, hw hs⟩⟩
  · rw [hy]
    exact h2 (fun a' w' => upTo S y w' ∧ wpAnyW P md l.toArray Q S b n g fuel (listed.setIfInBounds j true) a' w') ⟨fun a' w' hs hw => ⟨hs, hw hs⟩⟩
end
end Go.Proofs.Ytobikkdnalnllaa.SL
namespace Go.Proofs.Ytobikkdnalnllaa.SL
open Go.RowKit
set_option linter.unusedVariables false
section
variable {P : Program} {ops : Array Oper} {Q : Exit → Act → World → Prop} {md : Region.Mode} {S : World → Prop}
/-- All that is asked of an operation that is taken first, as one Bool. -/
def takeB (md : Region.Mode) (l : List Oper) (n b i : Nat) (listed : Array Bool) : Bool :=
  tailB md l.toArray n && headB md l.toArray n listed && (decide (i < n) && !decide (i = b)) && Region.free md l.toArray listed i && (Region.ready md l.toArray listed).contains i
theorem takeB_spec {md : Region.Mode} {l : List Oper} {n b i : Nat} {listed : Array Bool} (h : takeB md l n b i listed = true) :
    tailB md l.toArray n = true ∧ headB md l.toArray n listed = true ∧ (decide (i < n) && !decide (i = b)) = true ∧ Region.free md l.toArray listed i = true ∧ (Region.ready md l.toArray listed).contains i = true := by
  unfold takeB at h
  rw [Bool.and_eq_true, Bool.and_eq_true, Bool.and_eq_true, Bool.and_eq_true] at h
  exact ⟨h.1.1.1.1, h.1.1.1.2, h.1.1.2, h.1.2, h.2⟩
/-- An operation that looks at no memory, taken first. -/
theorem tkp {l : List Oper} {b n g : Nat} (i : Nat) {oi : Oper} {v : Value} {fuel : Nat} {listed : Array Bool} {a a' : Act} {w : World} (hS : upTo S (listed.getD b false) w)
    (h : wpAnyW P md l.toArray Q S b n g fuel (listed.setIfInBounds i true) a' w)
    (hi : l[i]? = some oi := by rfl) (hk : takeB md l n b i listed = true := by as_aux_lemma => kernel_rfl)
    (hw : Region.wanted oi (yielded l.toArray a.tmps) = true := by rfl)
    (hz : ∀ w, True → (execOp a.eval oi).run P w = .ok (.value v) w := by intro w hSw; go_simp; try with_reducible rfl)
    (ha : a.put oi.dst v = a' := by simp only [Act.put, List.setIfInBounds_toArray, List.set_cons_zero, List.set_cons_succ]; rfl)
    (hQ : ∀ c a w, Q (.panic c) (a.put oi.dst v) w → Q (.panic c) a w := by exact fun _ _ _ h => h) : wpAnyW P md l.toArray Q S b n g (fuel + 1) listed a w := by
  obtain ⟨h1, h2, h3, h4, h5⟩ := takeB_spec hk
  subst ha
  exact wpAnyW_takeL (i := i) (v := v) (fun _ => True) hi h1 h2 h3 h4 h5 (fun _ _ => trivial) (.inr (.inl fun _ => trivial)) hQ (.inl ⟨hw, hz⟩) hS h
/-- A load, taken first. -/
theorem tkl {l : List Oper} {b n g : Nat} (i : Nat) {oi : Oper} {v : Value} {fuel : Nat} {listed : Array Bool} {a a' : Act} {w : World} (hS : upTo S (listed.getD b false) w)
    (h : wpAnyW P md l.toArray Q S b n g fuel (listed.setIfInBounds i true) a' w)
    (hi : l[i]? = some oi := by rfl) (hk : (takeB md l n b i listed && (Region.waitsFor md l.toArray b i || decide (l.toArray.size ≤ b))) = true := by as_aux_lemma => kernel_rfl)
    (hw : Region.wanted oi (yielded l.toArray a.tmps) = true := by rfl)
    (hz : ∀ w, S w → (execOp a.eval oi).run P w = .ok (.value v) w := by intro w hSw; (try dsimp only at hSw); go_simp; try with_reducible rfl)
    (ha : a.put oi.dst v = a' := by simp only [Act.put, List.setIfInBounds_toArray, List.set_cons_zero, List.set_cons_succ]; rfl)
    (hQ : ∀ c a w, Q (.panic c) (a.put oi.dst v) w → Q (.panic c) a w := by exact fun _ _ _ h => h) : wpAnyW P md l.toArray Q S b n g (fuel + 1) listed a w := by
  rw [Bool.and_eq_true, Bool.or_eq_true] at hk
  obtain ⟨h1, h2, h3, h4, h5⟩ := takeB_spec hk.1
  subst ha
  exact wpAnyW_takeL (i := i) (v := v) S hi h1 h2 h3 h4 h5 (fun _ h => h) (hk.2.imp id .inr) hQ (.inl ⟨hw, hz⟩) hS h
theorem Row.as {w : World} {e : TypeId} {size n n' : Nat} {v : Value} {cs cs' : List Value} {F : HP} (H : SepI w (Row e size v n cs * F)) (hn : n = n') (hc : cs = cs') : SepI w (Row e size v n' cs' * F) := by subst hn hc; exact H
end
end Go.Proofs.Ytobikkdnalnllaa.SL
namespace Go.Proofs.Ytobikkdnalnllaa
open Go.RowKit SL Go.ChangeShapes Go.WideShapes Go.ChangeAt
set_option linter.unusedVariables false
theorem below_of_post {W W' : World} (h : Post W (old W) W') : Below W.heap.size W W' := by
  have e : ExtI W W' := h.ext W
  refine ⟨e.os, e.tape, e.output, e.size, fun k hk => ?_⟩
  obtain ⟨p, hp, q⟩ := h.sep.out
  have h1 := hp k hk
  rw [Array.getElem?_eq_getElem hk] at h1 ⊢
  exact q k _ h1
theorem list_of {α : Type} (p : Nat → α → Prop) : ∀ (n : Nat), (∀ i, i < n → ∃ x, p i x) → ∃ l : List α, l.length = n ∧ ∀ i x, l[i]? = some x → p i x
  | 0, _ => ⟨[], rfl, fun i x h => by simp at h⟩
  | n + 1, h => by
    obtain ⟨l, hl, hp⟩ := list_of p n (fun i hi => h i (by omega))
    obtain ⟨x, hx⟩ := h n (by omega)
    refine ⟨l ++ [x], by simp [hl], fun i y hy => ?_⟩
    by_cases hi : i < n
    · rw [List.getElem?_append_left (by omega)] at hy
      exact hp i y hy
    · rw [List.getElem?_append_right (by omega), hl] at hy
      have : i = n := by
        have := (List.getElem?_eq_some_iff.1 hy).1
        simp at this
        omega
      subst this
      simp at hy
      subst hy
      exact hx
theorem flat_all {α β : Type} {f : α → List β} {k : Nat} (hk : 0 < k) (hf : ∀ x, (f x).length = k) {l : List α} {Q : Nat → β → Prop} (h : ∀ i x, l[i]? = some x → ∀ q u, (f x)[q]? = some u → Q (i * k + q) u) :
    ∀ j u, (l.flatMap f)[j]? = some u → Q j u := by
  intro j u hj
  have hlen := flat_len hf l
  have hjl := (List.getElem?_eq_some_iff.1 hj).1
  have hd := Nat.div_add_mod j k
  have hm := Nat.mod_lt j hk
  have hjk : j / k < l.length := Nat.div_lt_of_lt_mul (by rw [Nat.mul_comm]; omega)
  obtain ⟨x, hx⟩ := get_ex hjk
  have := flat_get hf hx (j % k) hm
  rw [show j / k * k + j % k = j from by rw [Nat.mul_comm]; omega, hj] at this
  have := h _ x hx (j % k) u this.symm
  rwa [show j / k * k + j % k = j from by rw [Nat.mul_comm]; omega] at this
section
variable {H : Type} {enc : TypeId × Value → H} {W : World} {sp : Nat → Bool} {held : Bool}
theorem cells_at {a : Addr} {n : Nat} {cs : List Value} (h : W.cells? 0 a n = some cs) : cs.length = n ∧ ∀ j u, cs[j]? = some u → W.cell? (a.add j) = some u := by
  obtain ⟨_, hl, hc⟩ := World.cells?_some h
  refine ⟨hl, fun j u hj => ?_⟩
  rw [hc j (by rw [← hl]; exact (List.getElem?_eq_some_iff.1 hj).1), hj]
theorem cells_int : Try.prog.cellsOf 3 = 1 := by kernel_rfl
theorem add_lit (b o n : Nat) : (⟨b, o, none⟩ : Addr).add n = ⟨b, o + n, none⟩ := by unfold Addr.add; split <;> simp_all
theorem spot_none {a : Addr} {v : Value} (h : W.cell? a = some v) : a = ⟨a.block, a.off, none⟩ := by
  obtain ⟨b, o, s⟩ := a
  cases s with
  | none => rfl
  | some s => unfold World.cell? at h; split at h <;> simp at h
theorem add_zero' (a : Addr) : a.add 0 = a := by simp [Addr.add]
theorem len3 {cs : List Value} (h : cs.length = 3) : ∃ a b c, cs = [a, b, c] := by
  match cs, h with
  | [a, b, c], _ => exact ⟨a, b, c, rfl⟩
theorem readInts {n : Nat} {v : Value} {y : DataW H × List MemPlace} (h : DataW.trod enc Try.prog W 0 sp held n 26 [v] = some y) :
    ∃ (A : Option Addr) (c : Nat) (l : List Int), v = .slice A l.length c ∧ l.length ≤ maxLen ∧ l.length ≤ c ∧ Rd (old W) A (ints l) := by
  rcases Go.Deep.open_slice1 Try.underlying26 cells_int h with ⟨e, _⟩ | ⟨a, len, cap, m, q, V, D, Pl, e, _, hl, hm, hmm, _, hx⟩
  · injection e with e _
    exact ⟨none, 0, [], e, Nat.zero_le _, Nat.zero_le _, Rd.nil _ _⟩
  · injection e with e _
    have hle : len ≤ m := by rw [hmm]; split <;> omega
    obtain ⟨l, hll, hp⟩ := list_of (fun i (x : Int) => W.cell? (a.add i) = some (.int .i64 x)) len (fun i hi => by
      obtain ⟨hc, ht⟩ := hx i (by omega)
      obtain ⟨x, e, _⟩ := DataW.trod_int Try.underlying3 ht
      injection e with e _
      exact ⟨x, by rw [← e]; exact hc⟩)
    refine ⟨some a, cap, l, by rw [e, hll], by rw [hll]; omega, by rw [hll]; exact hl, Rd.of_old ?_⟩
    by_cases h0 : l = []
    · left; rw [h0]; rfl
    · right
      have hpos : 0 < l.length := List.length_pos_iff.2 h0
      obtain ⟨s, hs⟩ := get_ex hpos
      have hc0 := hp 0 s hs
      rw [add_zero'] at hc0
      refine ⟨a.block, a.off, by rw [← spot_none hc0], World.block_lt_of_cell? W a hc0, fun j u hj => ?_⟩
      obtain ⟨x, hx⟩ := get_ex (xs := l) (k := j) (by have := (List.getElem?_eq_some_iff.1 hj).1; rwa [ints_len] at this)
      rw [ints_get hx] at hj
      have := hp j x hx
      rw [spot_none hc0, add_lit] at this
      rw [this, hj]
theorem int_bounds {a : Int} (h : (Lit.int .i64 a).wf = true) : -9223372036854775808 ≤ a ∧ a ≤ 9223372036854775807 := by
  have h' : IntKind.i64.min ≤ a ∧ a ≤ 9223372036854775807 := by simpa [Lit.wf] using h
  exact h'
end
end Go.Proofs.Ytobikkdnalnllaa
namespace Go.Proofs.Ytobikkdnalnllaa
open Go.RowKit SL Go.ChangeShapes Go.WideShapes Go.ChangeAt
set_option linter.unusedVariables false
section
variable {H : Type} {enc : TypeId × Value → H} {W : World} {sp : Nat → Bool} {held : Bool}
theorem cells_lstep : Try.prog.cellsOf 143 = 3 := by kernel_rfl
theorem cells_lbody : Try.prog.cellsOf 119 = 1 := by kernel_rfl
theorem cells_lbodies : Try.prog.cellsOf 22 = 1 := by kernel_rfl
theorem cells_lprog : Try.prog.cellsOf 24 = 1 := by kernel_rfl
theorem readStep {n : Nat} {cs : List Value} {y : DataW H × List MemPlace} (h : DataW.trod enc Try.prog W 0 sp held n 143 cs = some y) : ∃ s : St, cs = cSt s := by
  obtain ⟨xs, m, _, rfl, hl, hlen, hf⟩ := DataW.trod_struct Try.underlying143 h
  rw [cells_lstep] at hl
  obtain ⟨a, b, c, rfl⟩ := len3 hl
  obtain ⟨y0, e0⟩ := get_ex (xs := xs) (k := 0) (by rw [hlen]; decide)
  obtain ⟨y1, e1⟩ := get_ex (xs := xs) (k := 1) (by rw [hlen]; decide)
  obtain ⟨y2, e2⟩ := get_ex (xs := xs) (k := 2) (by rw [hlen]; decide)
  have h0 : DataW.trod enc Try.prog W 0 sp held m 3 (([a, b, c].drop 0).take (Try.prog.cellsOf 3)) = some y0 := (hf 0 _ rfl).trans e0
  have h1 : DataW.trod enc Try.prog W 0 sp held m 3 (([a, b, c].drop 1).take (Try.prog.cellsOf 3)) = some y1 := (hf 1 _ rfl).trans e1
  have h2 : DataW.trod enc Try.prog W 0 sp held m 3 (([a, b, c].drop 2).take (Try.prog.cellsOf 3)) = some y2 := (hf 2 _ rfl).trans e2
  clear e0 e1 e2
  rw [cells_int] at h0 h1 h2
  simp only [List.drop_zero, List.take_succ_cons, List.take_zero, List.drop_succ_cons] at h0 h1 h2
  obtain ⟨i, e0, _⟩ := DataW.trod_int Try.underlying3 h0
  obtain ⟨j, e1, _⟩ := DataW.trod_int Try.underlying3 h1
  obtain ⟨k, e2, _⟩ := DataW.trod_int Try.underlying3 h2
  injection e0 with e0 _
  injection e1 with e1 _
  injection e2 with e2 _
  subst e0; subst e1; subst e2
  exact ⟨⟨i, j, k⟩, rfl⟩
theorem readBody {n : Nat} {v : Value} {y : DataW H × List MemPlace} (h : DataW.trod enc Try.prog W 0 sp held n 119 [v] = some y) :
    ∃ x : Bd, v = .slice x.p x.l.length x.c ∧ x.l.length ≤ maxLen ∧ Rd (old W) x.p (cSts x.l) := by
  rcases Go.Deep.open_slice Try.underlying119 h with ⟨e, _⟩ | ⟨a, len, cap, m, q, D, Pl, e, _, hl, hm, hmm, _, hx⟩
  · injection e with e _
    exact ⟨⟨none, 0, []⟩, e, Nat.zero_le _, Rd.nil _ _⟩
  · injection e with e _
    rw [cells_lstep] at hx
    have hle : len ≤ m := by rw [hmm]; split <;> omega
    obtain ⟨l, hll, hp⟩ := list_of (fun i (s : St) => ∀ j u, (cSt s)[j]? = some u → W.cell? ((a.add (i * 3)).add j) = some u) len (fun i hi => by
      obtain ⟨cs, hc, ht⟩ := hx i (by omega)
      obtain ⟨s, rfl⟩ := readStep ht
      exact ⟨s, (cells_at hc).2⟩)
    refine ⟨⟨some a, cap, l⟩, by rw [hll]; exact e, by show l.length ≤ maxLen; rw [hll]; omega, Rd.of_old ?_⟩
    by_cases h0 : l = []
    · left; rw [h0]; rfl
    · right
      have hpos : 0 < l.length := List.length_pos_iff.2 h0
      obtain ⟨s, hs⟩ := get_ex hpos
      have hc0 := hp 0 s hs 0 (.int .i64 s.k) rfl
      rw [Nat.zero_mul, add_zero', add_zero'] at hc0
      refine ⟨a.block, a.off, by rw [← spot_none hc0], World.block_lt_of_cell? W a hc0, ?_⟩
      refine flat_all (f := cSt) (k := 3) (by omega) (fun _ => rfl) (Q := fun j u => W.cell? ⟨a.block, a.off + j, none⟩ = some u) (fun i x hix r u hu => ?_)
      have := hp i x hix r u hu
      rw [spot_none hc0, add_lit, add_lit] at this
      rw [Nat.add_assoc] at this
      exact this
set_option maxRecDepth 100000 in
theorem readP {v : Value} {d : DataW H} {ps : List MemPlace} {base : Nat} {r : Reach} (hv : Value.okWide Try.prog W r base 24 v) (h : DataW.Trod enc Try.prog W 0 sp held 24 v d ps) :
    ∃ (A : Option Addr) (c : Nat) (bs : List Bd), v = .agg #[.slice A bs.length c] ∧ ArgP (old W) A bs := by
  obtain ⟨cs, rfl, hsz⟩ := okWide_struct Try.underlying24 hv
  rw [cells_lprog] at hsz
  obtain ⟨fuel, hf⟩ := h
  obtain ⟨y0, n, _, _, h0⟩ := trod_struct1 Try.underlying24 hf
  obtain ⟨x, rfl⟩ : ∃ x, cs = #[x] := by
    obtain ⟨l⟩ := cs
    match l, hsz with
    | [x], _ => exact ⟨x, rfl⟩
  simp only [Value.cells, cells_lbodies, List.drop_zero, List.take_succ_cons, List.take_zero] at h0
  rcases Go.Deep.open_slice1 Try.underlying22 cells_lbody h0 with ⟨e, _⟩ | ⟨a, len, cap, m, q, V, D, Pl, e, _, hl, hm, hmm, _, hx⟩
  · injection e with e _
    exact ⟨none, 0, [], by rw [e]; rfl, ⟨Rd.nil _ _, (fun x hx => by cases hx), (fun x hx => by cases hx), Nat.zero_le _⟩⟩
  · injection e with e _
    have hle : len ≤ m := by rw [hmm]; split <;> omega
    obtain ⟨l, hll, hp⟩ := list_of (fun i (x : Bd) => W.cell? (a.add i) = some (.slice x.p x.l.length x.c) ∧ x.l.length ≤ maxLen ∧ Rd (old W) x.p (cSts x.l)) len (fun i hi => by
      obtain ⟨hc, ht⟩ := hx i (by omega)
      obtain ⟨x, hv, h1, h2⟩ := readBody ht
      exact ⟨x, by rw [← hv]; exact hc, h1, h2⟩)
    refine ⟨some a, cap, l, by rw [e, hll], ⟨Rd.of_old ?_, fun x hx => ?_, fun x hx => ?_, by rw [hll]; omega⟩⟩
    · by_cases h0 : l = []
      · left; rw [h0]; rfl
      · right
        have hpos : 0 < l.length := List.length_pos_iff.2 h0
        obtain ⟨s, hs⟩ := get_ex hpos
        have hc0 := (hp 0 s hs).1
        rw [add_zero'] at hc0
        refine ⟨a.block, a.off, by rw [← spot_none hc0], World.block_lt_of_cell? W a hc0, fun j u hj => ?_⟩
        obtain ⟨x, hx⟩ := get_ex (xs := l) (k := j) (by have := (List.getElem?_eq_some_iff.1 hj).1; rwa [cBds_len] at this)
        rw [cBds_get hx] at hj
        have := (hp j x hx).1
        rw [spot_none hc0, add_lit] at this
        rw [this, hj]
    · obtain ⟨i, hi⟩ := List.getElem?_of_mem hx
      exact (hp i x hi).2.2
    · obtain ⟨i, hi⟩ := List.getElem?_of_mem hx
      exact (hp i x hi).2.1
set_option maxRecDepth 100000 in
theorem readStepV {v : Value} {d : DataW H} {ps : List MemPlace} {base : Nat} {r : Reach} (hv : Value.okWide Try.prog W r base 143 v) (h : DataW.Trod enc Try.prog W 0 sp held 143 v d ps) :
    ∃ s : St, v = .agg #[.int .i64 s.k, .int .i64 s.a, .int .i64 s.b] := by
  obtain ⟨cs, rfl, hsz⟩ := okWide_struct Try.underlying143 hv
  obtain ⟨fuel, hf⟩ := h
  obtain ⟨s, hs⟩ := readStep hf
  refine ⟨s, ?_⟩
  simp only [Value.cells] at hs
  have : cs = (cSt s).toArray := by rw [← hs]
  rw [this]
  rfl
end
end Go.Proofs.Ytobikkdnalnllaa
