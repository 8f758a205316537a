/- AreAlike: the program's closures. Conditions: lengths within bounds. -/
import Derived.Test.YtmallhlddilmcaaEf
import Derived.Test.YtmallhlddilmcaaDg
namespace Go.Proofs.Ytmallhlddilmcaa
open Go.RowKit SL
attribute [local go_sem] cell_blk frozen_blk lt_blk cell_at frozen_row lt_row
set_option linter.unusedVariables false
set_option linter.unusedSimpArgs false

def eqAt (known : List Int) (i j : Int) : Bool := known.getD i.toNat 0 == known.getD j.toNat 0
/-- Whether two errors are alike, if the classes of their parts are told. -/
def alikeB (known : List Int) (x y : EC) : Bool := x.1 == y.1 && (x.2.1 == y.2.1 && eq2 (eqAt known) x.2.2 y.2.2)
/-- The greatest number behind k that p takes. -/
def firstK (p : Nat → Bool) (k : Nat) : Nat → Option Nat
  | 0 => none
  | j + 1 => if k < j then (if p j then some j else firstK p k j) else none
def nodeAt (es : List EC) (k : Nat) : EC := es.getD k (0, 0, [])
def clsV (known : List Int) (k : Nat) : Option Nat → Int
  | some j => known.getD j 0
  | none => k
def clsE (es : List EC) (k : Nat) (known : List Int) : Int := clsV known k (firstK (fun j => alikeB known (nodeAt es k) (nodeAt es j)) k es.length)
def clss (es : List EC) : List Int := tabF es.length (clsE es) es.length
theorem nodeAt_of {es : List EN} {k : Nat} {x : EN} (h : es[k]? = some x) : nodeAt (es.map ecOf) k = ecOf x := by
  unfold nodeAt; rw [List.getD_eq_getElem?_getD, List.getElem?_map, h]; rfl

theorem enters_alike2 : Enters 85 := fun _ _ => by go_simp
theorem enters_alike : Enters 83 := fun _ _ => by go_simp
set_option maxHeartbeats 1000000 in
theorem impl_Alike11 (S : HP) (w : World) [H : SepI w S] (bk b n : Nat) (known : List Int) (x y : Nat) [HasBlk S bk (.cells #[.slice (some ⟨b, 0, none⟩) n n] 62 (0, 0))] [rk : Rd S (some ⟨b, 0, none⟩) (ints known)] (hn : n ≤ 1048576) (hl : known.length = n) (hx : x < n) (hy : y < n) :
    Calls Try.prog 85 #[.int .i64 x, .int .i64 y, .pointer (some ⟨bk, 0, none⟩)] w fun e w' => e = .returned (.bool (eqAt known x y)) ∧ Post w S w' := by
  obtain ⟨u, hu⟩ := get_ex (xs := known) (k := x) (by rw [hl]; exact hx)
  obtain ⟨v, hv⟩ := get_ex (xs := known) (k := y) (by rw [hl]; exact hy)
  have c1 := rk.cell (ints_get hu)
  have c2 := rk.cell (ints_get hv)
  rw [Nat.zero_add] at c1 c2
  have e : eqAt known x y = (u == v) := by unfold eqAt; rw [Int.toNat_natCast, Int.toNat_natCast, getD_of hu, getD_of hv]
  rw [e]
  clear hu hv e hl
  go_enter Try.func85, Try.ntmps85
  go_wp2
  go_quiet (fail)
  go_wp2
  go_ret
  exact ⟨ret_b (by simp), Post.mk' inferInstance inferInstance⟩
end Go.Proofs.Ytmallhlddilmcaa
