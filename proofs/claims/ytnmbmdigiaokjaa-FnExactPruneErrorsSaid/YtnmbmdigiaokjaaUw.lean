/- slices.Clone, l1Own; UnwrapError by the program and by the reference. Conditions: lengths within bounds. -/
import Derived.Test.YtnmbmdigiaokjaaLb
import Derived.Test.YtnmbmdigiaokjaaDf
namespace Go.Proofs.Ytnmbmdigiaokjaa
open Go.RowKit SL
attribute [local go_sem] cell_blk frozen_blk lt_blk cell_at frozen_row lt_row
set_option linter.unusedVariables false
set_option linter.unusedSimpArgs false

/-- A call that hands back a row of ints of its own. -/
def IntsPost (S : HP) (l : List Int) (w : World) (e : Ending) (w' : World) : Prop := ∃ A c, e = .returned (.slice A l.length c) ∧ Post w (Row 3 1 (.slice A l.length c) l.length (ints l) * S) w'
/-- The same beside a bool. -/
def IntsOk (S : HP) (l : List Int) (ok : Bool) (w : World) (e : Ending) (w' : World) : Prop := ∃ A c, e = two (.slice A l.length c) (.bool ok) ∧ Post w (Row 3 1 (.slice A l.length c) l.length (ints l) * S) w'
theorem IntsPost.of {S : HP} {l : List Int} {w w' : World} {v : Value} (h : Post w (Row 3 1 v l.length (ints l) * S) w') : IntsPost S l w (.returned v) w' := by
  obtain ⟨A, c, rfl, _⟩ := Row.form h.sep
  exact ⟨A, c, rfl, h⟩
theorem IntsOk.of {S : HP} {l : List Int} {ok : Bool} {w w' : World} {v : Value} (h : Post w (Row 3 1 v l.length (ints l) * S) w') : IntsOk S l ok w (two v (.bool ok)) w' := by
  obtain ⟨A, c, rfl, _⟩ := Row.form h.sep
  exact ⟨A, c, rfl, h⟩
theorem IntsOk.nil {S : HP} {ok : Bool} {w w' : World} {v : Value} (h : Post w (Row 3 1 v 0 [] * S) w') : IntsOk S [] ok w (two v (.bool ok)) w' := IntsOk.of (l := []) h
theorem ints_one (l : List Int) : ∀ u ∈ ints l, u.oneCell' = true := fun u hu => by
  unfold ints at hu
  obtain ⟨x, _, rfl⟩ := List.mem_map.1 hu
  rfl
/-- Where a slice is nil its capacity is none. -/
def PcOk (es : List EN) : Prop := ∀ x ∈ es, x.p = none → x.pc = 0
theorem PcOk.own {w : World} {v : Value} {es : List EN} {F : HP} (H : SepI w (OwnE v es * F)) : PcOk es := fun x hx hp => by
  unfold OwnE at H
  rw [star_assoc] at H
  obtain ⟨R, e⟩ := stars_pick (List.mem_map_of_mem (f := OwnI) hx)
  have H2 := H.right
  rw [e, star_assoc] at H2
  unfold OwnI at H2
  rcases Row.open H2 with ⟨hv, _⟩ | ⟨g, cap, cur, hv, _⟩
  · injection hv
  · injection hv with hv _ _
    rw [hp] at hv; cases hv
theorem Rd.none_nil {S : HP} {cs : List Value} (r : Rd S none cs) {w : World} (H : SepI w S) : cs = [] := by
  rcases r.out w H with h | ⟨b, off, hA, _⟩
  · exact h
  · cases hA
set_option maxHeartbeats 1000000 in
theorem cloneI (S : HP) (w : World) [H : SepI w S] (A : Option Addr) (c : Nat) (l : List Int) [r : Rd S A (ints l)] (hn : l.length ≤ 1048576) (hA : A = none → c = 0) :
    Calls Try.prog 95 #[.slice A l.length c] w (IntsPost S l w) := by
  cases A with
  | none =>
    have hl : l = [] := by
      have := Rd.none_nil r H
      cases l with
      | nil => rfl
      | cons x l => simp [ints] at this
    subst hl
    have e1 := fun (w : World) (n c n' c' : Nat) => Lib.run_eql_slice_nil (P := Try.prog) w 34 3 none n c n' c' Try.underlying34
    go_enter Try.func95, Try.ntmps95
    go_wp2
    go_ret
    exact IntsPost.of (l := []) (Post.mk' (Row.nil0 H _ _) inferInstance)
  | some ad =>
    have e1 := fun (w : World) (n c n' c' : Nat) => Lib.run_eql_slice_nil (P := Try.prog) w 34 3 (some ad) n c n' c' Try.underlying34
    have HS1 : SepI (w.alloc (.cells #[] 3 (0, 0))) (Row 3 1 (.slice (some ⟨w.heap.size, 0, none⟩) 0 0) 0 [] * S) := Row.lit0 (SepI.i_alloc w (.cells #[] 3 (0, 0)) S _)
    go_enter Try.func95, Try.ntmps95
    go_wp2_with (at_builtin; go_must (refine ev_appendR (H := HS1) (v := .slice (some ⟨w.heap.size, 0, none⟩) 0 0) rfl _ _ 34 rfl rfl 8 _ Try.underlying34 info_int rfl (by decide) (by decide) (some ad) l.length c rfl (news := ints l) (fun h => (by cases h)) (by rw [ints_len, Nat.mul_one]) (ints_one l) (by omega) ?_); rw [Nat.zero_add, List.nil_append]; intro v1 w2 HS2 HE2)
    go_ret
    exact IntsPost.of (Post.mk' HS2 inferInstance)

/-- What UnwrapError answers. -/
def unwrapAns (es : List EC) (a : Int) : List Int := if hasB es [a] then (es.getD a.toNat (0, 0, [])).2.2 else []
theorem small_UnwrapError (es : List EC) (a : Int) : (unwrapAns es a).length ≤ 1048576 := by
  unfold unwrapAns
  split
  · rename_i h
    obtain ⟨hv, k, rfl, hk⟩ := hasB_one h
    rw [Int.toNat_natCast]
    obtain ⟨x, hx⟩ := get_ex (xs := es) (k := k) hk
    rw [List.getD_eq_getElem?_getD, hx]
    unfold errsB at hv
    simp only [Bool.and_eq_true] at hv
    have h1 := nodesB_at hv.2 hx
    unfold nodeB at h1
    simp only [Bool.and_eq_true, decide_eq_true_eq] at h1
    have := h1.2.2.1
    show x.2.2.length ≤ _
    omega
  · simp
end Go.Proofs.Ytnmbmdigiaokjaa
