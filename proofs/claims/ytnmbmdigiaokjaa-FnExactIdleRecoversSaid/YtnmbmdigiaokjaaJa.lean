/- IdleRecovers: plain law. Conditions: none. -/
import Derived.Test.YtnmbmdigiaokjaaRd
import Derived.Test.YtnmbmdigiaokjaaGb
import Derived.Test.YtnmbmdigiaokjaaQ2
namespace Go.Proofs.Ytnmbmdigiaokjaa
open Go.RowKit SL
set_option linter.unusedVariables false
set_option linter.unusedSimpArgs false

def bodyOf (L : List (List St)) (g : Int) : List St := L.getD g.toNat []
theorem bodyOf_at {bs : List Bd} {g : Nat} {x : Bd} (h : bs[g]? = some x) : bodyOf (bs.map (·.l)) g = x.l := by
  unfold bodyOf; rw [Int.toNat_natCast, List.getD_eq_getElem?_getD, List.getElem?_map, h]; rfl
def defN (L : List (List St)) (rs : List Int) : List Int := rs.flatMap (fun g => ascA (callN kDf (bodyOf L g)))
def pr (g : Int) (ks : List Nat) : List Int := ks.flatMap (fun t : Nat => [g, (t : Int)])
theorem pr_snoc (g : Int) (ks : List Nat) (t : Nat) : pr g (ks ++ [t]) = pr g ks ++ [g, (t : Int)] := by unfold pr; rw [List.flatMap_append]; rfl
theorem pr_len (g : Int) (ks : List Nat) : (pr g ks).length = ks.length * 2 := by
  unfold pr
  induction ks with
  | nil => rfl
  | cons k ks ih => rw [List.flatMap_cons, List.length_append, ih, List.length_cons]; simp; omega
def idleOne (L : List (List St)) (D : List Int) (g : Int) : List Int := if D.contains g then [] else pr g (recN (bodyOf L g) (bodyOf L g).length)
def idleF (L : List (List St)) (D rs : List Int) : List Int := rs.flatMap (idleOne L D)
theorem idleOne_even (L : List (List St)) (D : List Int) (g : Int) : ∃ m, (idleOne L D g).length = m * 2 := by
  unfold idleOne
  split
  · exact ⟨0, rfl⟩
  · exact ⟨_, pr_len _ _⟩
theorem idleF_even (L : List (List St)) (D rs : List Int) : ∃ m, (idleF L D rs).length = m * 2 := by
  unfold idleF
  induction rs with
  | nil => exact ⟨0, rfl⟩
  | cons g rs ih =>
    obtain ⟨m, hm⟩ := ih
    obtain ⟨k, hk⟩ := idleOne_even L D g
    exact ⟨k + m, by rw [List.flatMap_cons, List.length_append, hm, hk]; omega⟩
theorem idleF_len {L : List (List St)} (hb : ∀ b ∈ L, b.length ≤ 8) (D : List Int) : ∀ rs : List Int, (idleF L D rs).length ≤ rs.length * 16
  | [] => by simp [idleF]
  | g :: rs => by
    have ih := idleF_len hb D rs
    have h1 : (idleOne L D g).length ≤ 16 := by
      unfold idleOne
      split
      · simp
      · rw [pr_len]
        have h2 := recN_len (bodyOf L g) (bodyOf L g).length
        have h3 : (bodyOf L g).length ≤ 8 := by
          unfold bodyOf
          rw [List.getD_eq_getElem?_getD]
          cases h : L[g.toNat]? with
          | none => simp
          | some b => exact hb b (List.mem_of_getElem? h)
        omega
    unfold idleF at ih ⊢
    rw [List.flatMap_cons, List.length_append, List.length_cons]
    omega
theorem defN_len {L : List (List St)} (hb : ∀ b ∈ L, b.length ≤ 8) : ∀ rs : List Int, (defN L rs).length ≤ rs.length * 8
  | [] => by simp [defN]
  | g :: rs => by
    have ih := defN_len hb rs
    have h1 := ascA_len (callN kDf (bodyOf L g))
    have h2 := callN_len kDf (bodyOf L g)
    have h3 : (bodyOf L g).length ≤ 8 := by
      unfold bodyOf
      rw [List.getD_eq_getElem?_getD]
      cases h : L[g.toNat]? with
      | none => simp
      | some b => exact hb b (List.mem_of_getElem? h)
    unfold defN at ih ⊢
    rw [List.flatMap_cons, List.length_append, List.length_cons]
    omega
theorem flatMap_take_succ {α β : Type} {f : α → List β} {l : List α} {i : Nat} {x : α} (h : l[i]? = some x) : (l.take (i + 1)).flatMap f = (l.take i).flatMap f ++ f x := by
  rw [take_succ_eq h, List.flatMap_append]; simp
theorem ascA_app_asc (E c : List Int) : ascA (E ++ ascA c) = (ascA c).foldl putA (ascA E) := by unfold ascA; rw [List.foldl_append]
def idleAns (L : List (List St)) (f : Int) : List Int := if funB L f then idleF L (defN L (ascA (reachN L f 6))) (ascA (reachN L f 6)) else []
theorem idleAns_even (L : List (List St)) (f : Int) : ∃ m, (idleAns L f).length = m * 2 := by
  unfold idleAns
  split
  · exact idleF_even _ _ _
  · exact ⟨0, rfl⟩
theorem reachN_ok {L : List (List St)} {k : Nat} (h : funB L k = true) : (ascA (reachN L k 6)).length ≤ 6 ∧ ∀ y ∈ ascA (reachN L k 6), ∃ j : Nat, y = j ∧ j < L.length := by
  obtain ⟨hv, k', hk', hk⟩ := funB_of h
  obtain rfl : k' = k := by omega
  have h1 := (reachN_fns hv hk 6).1
  refine ⟨?_, fun y hy => h1.2 y ((ascA_ok _).2 y |>.1 hy)⟩
  have h2 := ascA_len (reachN L k' 6)
  have h3 := h1.len
  have h4 := (prog_small hv).2.1
  omega
theorem small_IdleRecovers (L : List (List St)) (f : Int) : (idleAns L f).length ≤ 96 := by
  unfold idleAns
  split
  · rename_i h
    obtain ⟨hv, k, rfl, hk⟩ := funB_of h
    have h1 := idleF_len (fun b hb => (prog_small hv).2.2 b hb) (defN L (ascA (reachN L k 6))) (ascA (reachN L k 6))
    have h2 := (reachN_ok h).1
    omega
  · simp
/-- A call that hands back a row of pairs of its own and a bool. -/
def A2Ok (S : HP) (fl : List Int) (ok : Bool) (w : World) (e : Ending) (w' : World) : Prop := ∃ A c, e = two (.slice A (fl.length / 2) c) (.bool ok) ∧ Post w (Row 93 2 (.slice A (fl.length / 2) c) (fl.length / 2) (ints fl) * S) w'
theorem A2Ok.of {S : HP} {fl : List Int} {ok : Bool} {w w' : World} {v : Value} (h : Post w (Row 93 2 v (fl.length / 2) (ints fl) * S) w') : A2Ok S fl ok w (two v (.bool ok)) w' := by
  obtain ⟨A, c, rfl, _⟩ := Row.form h.sep
  exact ⟨A, c, rfl, h⟩
theorem A2Ok.nil {S : HP} {ok : Bool} {w w' : World} {v : Value} (h : Post w (Row 93 2 v 0 [] * S) w') : A2Ok S [] ok w (two v (.bool ok)) w' := A2Ok.of (fl := []) h
theorem Row.none_len {w : World} {e size n c : Nat} {A : Option Addr} {cs : List Value} {F : HP} (H : SepI w (Row e size (.slice A n c) n cs * F)) (h : A = none) : n = 0 ∧ c = 0 := by
  rcases Row.open H with ⟨hv, h0, _⟩ | ⟨g, cap, cur, hv, _⟩
  · injection hv with _ _ hc; exact ⟨h0, hc⟩
  · injection hv with hA; rw [h] at hA; cases hA
end Go.Proofs.Ytnmbmdigiaokjaa
