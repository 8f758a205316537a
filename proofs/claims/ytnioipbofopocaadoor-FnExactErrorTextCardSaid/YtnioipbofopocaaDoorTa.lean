/- Numbers as texts: the library's Itoa and the reference's own way. Conditions: the table of powers of ten reads as it is laid. -/
import Derived.Test.YtnioipbofopocaaDoorSa
import Derived.Test.YtnioipbofopocaaDoorSh
import Derived.Lib.ItoaMem
import Derived.Laws.Concat
import Derived.IntWalk
namespace Go.Proofs.YtnioipbofopocaaDoor
open Go.RowKit SL
attribute [local go_sem] cell_blk frozen_blk lt_blk cell_at frozen_row lt_row
set_option linter.unusedVariables false
set_option linter.unusedSimpArgs false
/-- The table of powers of ten lies in what S holds. -/
class TabI (S : HP) : Prop where
  out : ∀ w, SepI w S → Lib.TabIs Tryd.prog w "internal/strconv.uint64pow10" .u64 Lib.pow10Tab
instance (priority := low) TabI.there (X S : HP) [i : TabI S] : TabI (X * S) := ⟨fun w H => i.out w H.right⟩
theorem TabI.of_old {W : World} (h : Lib.TabIs Tryd.prog W "internal/strconv.uint64pow10" .u64 Lib.pow10Tab) : TabI (old W) := ⟨fun w H => by
  unfold Lib.TabIs World.var? at *
  cases hg : Tryd.prog.globalNamed "internal/strconv.uint64pow10" with
  | none => simp [hg] at h
  | some g =>
    simp only [hg, Option.bind_some] at h ⊢
    have hlt : g < W.heap.size := by
      rcases Nat.lt_or_ge g W.heap.size with h' | h'
      · exact h'
      · rw [Array.getElem?_eq_none h'] at h; simp at h
    obtain ⟨p, hp, q⟩ := H.out
    have h1 := hp g hlt
    have h2 : w.heap[g]? = W.heap[g]? := by
      rw [Array.getElem?_eq_getElem hlt] at h1 ⊢
      exact q g _ h1
    rw [h2]
    exact h⟩
theorem SepI.growT {w : World} {S : HP} (H : SepI w S) (os : Array Obj) : SepI (Go.Sort.grow w os) S := H.stays fun g hg => by
  show (w.heap ++ os)[g]? = _
  rw [Array.getElem?_append_left hg]
theorem ExtI.growT {u w : World} (i : ExtI u w) (os : Array Obj) : ExtI u (Go.Sort.grow w os) := ⟨i.os, i.tape, i.output, by
  show u.heap.size ≤ (w.heap ++ os).size
  rw [Array.size_append]
  exact Nat.le_trans i.size (Nat.le_add_right _ _)⟩
def mkT (l : List UInt8) : ByteArray := ⟨l.toArray⟩
theorem mkT_append (l m : List UInt8) : mkT l ++ mkT m = mkT (l ++ m) := ByteArray.mk_append_mk l m
theorem mkT_size (l : List UInt8) : (mkT l).size = l.length := by simp [mkT, ByteArray.size]
theorem mkT_data (x : ByteArray) : mkT x.data.toList = x := by unfold mkT; cases x; simp
/-- The text of a number. -/
def numB (n : Int) : ByteArray := mkT (Lib.itoa n)
theorem impl_Itoa (S : HP) (w : World) [H : SepI w S] [t : TabI S] (n : Int) (h0 : -9223372036854775808 ≤ n) (h1 : n ≤ 9223372036854775807) :
    Calls Tryd.prog 41 #[.int .i64 n] w fun e w' => e = .returned (.string (numB n)) ∧ Post w S w' := by
  refine (Tryd.strconv_Itoa n h0 h1 w (t.out w H)).mono ?_
  rintro e w' ⟨rfl, k, os, rfl⟩
  exact ⟨rfl, Post.mk' (SepI.growT (SepI.i_drewN w S k) os) (ExtI.growT inferInstance os)⟩
def digs : ByteArray := ⟨#[48, 49, 50, 51, 52, 53, 54, 55, 56, 57]⟩
theorem digs_at : ∀ i : Nat, i < 10 → digs.extract i (i + 1) = mkT (Lib.decDigits i) := by
  intro i hi
  rw [Lib.decDigits_one hi]
  match i, hi with
  | 0, _ => rfl
  | 1, _ => rfl
  | 2, _ => rfl
  | 3, _ => rfl
  | 4, _ => rfl
  | 5, _ => rfl
  | 6, _ => rfl
  | 7, _ => rfl
  | 8, _ => rfl
  | 9, _ => rfl
theorem decDigits_more {u : Nat} (h : ¬ u < 10) : Lib.decDigits u = Lib.decDigits (u / 10) ++ Lib.decDigits (u % 10) := by
  rw [Lib.decDigits_one (i := u % 10) (by omega)]
  rw [Lib.decDigits, dif_neg h]
end Go.Proofs.YtnioipbofopocaaDoor
