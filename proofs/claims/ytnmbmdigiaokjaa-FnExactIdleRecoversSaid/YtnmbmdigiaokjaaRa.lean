/- Programs: the functions to which one comes from a function (plain), and the reference's test for a number. Conditions: lengths within bounds. -/
import Derived.Test.YtnmbmdigiaokjaaGd
namespace Go.Proofs.Ytnmbmdigiaokjaa
open Go.RowKit SL
attribute [local go_sem] cell_blk frozen_blk lt_blk cell_at frozen_row lt_row
set_option linter.unusedVariables false
set_option linter.unusedSimpArgs false

def calledOf (L : List (List St)) (g : Int) : List Int := ascA (callN kCD (L.getD g.toNat []))
def addNew (o : List Int) (x : Int) : List Int := if o.contains x then o else o ++ [x]
def reachStep (L : List (List St)) (o : List Int) (i : Nat) : List Int := (o[i]?).elim o (fun g => (calledOf L g).foldl addNew o)
def reachN (L : List (List St)) (f : Int) : Nat → List Int
  | 0 => [f]
  | i + 1 => reachStep L (reachN L f i) i
/-- What is kept: functions of the program, none twice. -/
def Fns (n : Nat) (o : List Int) : Prop := o.Nodup ∧ ∀ y ∈ o, ∃ j : Nat, y = j ∧ j < n
theorem Fns.len {n : Nat} {o : List Int} (h : Fns n o) : o.length ≤ n := by
  have h1 : o ⊆ (List.range n).map (fun j : Nat => (j : Int)) := fun y hy => by
    obtain ⟨j, rfl, hj⟩ := h.2 y hy
    exact List.mem_map.2 ⟨j, List.mem_range.2 hj, rfl⟩
  have key : ∀ (o t : List Int), o.Nodup → o ⊆ t → o.length ≤ t.length := by
    intro o
    induction o with
    | nil => intro t _ _; simp
    | cons x o ih =>
      intro t hn hs
      have hx : x ∈ t := hs (by simp)
      have := ih (t.erase x) (List.nodup_cons.1 hn).2 (fun y hy => (List.mem_erase_of_ne (by rintro rfl; exact (List.nodup_cons.1 hn).1 hy)).2 (hs (by simp [hy])))
      rw [List.length_erase_of_mem hx] at this
      have : 0 < t.length := List.length_pos_of_mem hx
      rw [List.length_cons]; omega
  have := key o _ h.1 h1
  rwa [List.length_map, List.length_range] at this
theorem Fns.add {n : Nat} {o : List Int} (h : Fns n o) {x : Int} (hx : ∃ j : Nat, x = j ∧ j < n) : Fns n (addNew o x) := by
  unfold addNew
  split
  · exact h
  · rename_i hc
    refine ⟨?_, fun y hy => ?_⟩
    · rw [List.nodup_append]
      refine ⟨h.1, by simp, ?_⟩
      intro a ha b hb
      simp at hb
      subst hb
      rintro rfl
      exact hc (by simpa using ha)
    · rcases List.mem_append.1 hy with hy | hy
      · exact h.2 y hy
      · simp at hy; subst hy; exact hx
theorem addNew_len (o : List Int) (x : Int) : o.length ≤ (addNew o x).length := by unfold addNew; split <;> simp
theorem addNew_get {o : List Int} {i : Nat} {y : Int} (h : o[i]? = some y) (x : Int) : (addNew o x)[i]? = some y := by
  unfold addNew
  split
  · exact h
  · rw [List.getElem?_append_left (List.getElem?_eq_some_iff.1 h).1]; exact h
theorem fold_fns {n : Nat} : ∀ (cs o : List Int), Fns n o → (∀ y ∈ cs, ∃ j : Nat, y = j ∧ j < n) → Fns n (cs.foldl addNew o) ∧ o.length ≤ (cs.foldl addNew o).length
  | [], o, h, _ => ⟨h, Nat.le_refl _⟩
  | x :: cs, o, h, hc => by
    have := fold_fns cs (addNew o x) (h.add (hc x (by simp))) (fun y hy => hc y (by simp [hy]))
    exact ⟨this.1, Nat.le_trans (addNew_len o x) this.2⟩
theorem calledOf_fns {L : List (List St)} (hv : progB L = true) {g : Nat} (hg : g < L.length) : ∀ y ∈ calledOf L g, ∃ j : Nat, y = j ∧ j < L.length := fun y hy => by
  unfold calledOf at hy
  rw [Int.toNat_natCast, List.getD_eq_getElem?_getD, List.getElem?_eq_getElem hg, Option.getD_some] at hy
  exact called_fun hv (List.getElem_mem hg) (kd := kCD) (fun k h => by simpa [kCD] using h) hy
theorem reachN_fns {L : List (List St)} (hv : progB L = true) {f : Nat} (hf : f < L.length) : ∀ i, Fns L.length (reachN L f i) ∧ (reachN L f i).length ≤ (reachN L f (i + 1)).length := by
  have step : ∀ i, Fns L.length (reachN L f i) → Fns L.length (reachN L f (i + 1)) ∧ (reachN L f i).length ≤ (reachN L f (i + 1)).length := by
    intro i h
    show Fns L.length (reachStep L (reachN L f i) i) ∧ _ ≤ (reachStep L (reachN L f i) i).length
    unfold reachStep
    cases hg : (reachN L f i)[i]? with
    | none => exact ⟨h, Nat.le_refl _⟩
    | some g =>
      obtain ⟨j, rfl, hj⟩ := h.2 g (List.mem_of_getElem? hg)
      exact fold_fns _ _ h (calledOf_fns hv hj)
  intro i
  have : Fns L.length (reachN L f i) := by
    induction i with
    | zero => exact ⟨by simp [reachN], fun y hy => by simp [reachN] at hy; exact ⟨f, hy, hf⟩⟩
    | succ i ih => exact (step i ih).1
  exact ⟨this, (step i this).2⟩
theorem reachN_stop {L : List (List St)} {f : Int} {i : Nat} (h : (reachN L f i).length ≤ i) : ∀ d, reachN L f (i + d) = reachN L f i
  | 0 => rfl
  | d + 1 => by
    show reachStep L (reachN L f (i + d)) (i + d) = _
    rw [reachN_stop h d]
    unfold reachStep
    rw [List.getElem?_eq_none (by omega)]
    rfl
theorem reachN_at {L : List (List St)} {f : Int} {i : Nat} {g : Int} (h : (reachN L f i)[i]? = some g) : reachN L f (i + 1) = (calledOf L g).foldl addNew (reachN L f i) := by
  show reachStep L (reachN L f i) i = _
  unfold reachStep
  rw [h]; rfl
def reachAns (L : List (List St)) (f : Int) : List Int := if funB L f then ascA (reachN L f 6) else []
theorem ascA_len_le (l : List Int) : (ascA l).length ≤ l.length := ascA_len l
theorem small_ReachedFrom (L : List (List St)) (f : Int) : (reachAns L f).length ≤ 1048576 := by
  unfold reachAns
  split
  · rename_i h
    obtain ⟨hv, k, rfl, hk⟩ := funB_of h
    have h1 := ascA_len (reachN L k 6)
    have h2 := ((reachN_fns hv hk 6).1).len
    have h3 := (prog_small hv).2.1
    omega
  · simp
theorem ascA_contains (l : List Int) (x : Int) : (ascA l).contains x = l.contains x := by
  rw [Bool.eq_iff_iff]
  simp [(ascA_ok l).2 x]
theorem ascA_addNew (o : List Int) (x : Int) : ascA (addNew o x) = if o.contains x then ascA o else putA (ascA o) x := by
  unfold addNew
  split
  · rfl
  · exact ascA_snoc o x

set_option maxRecDepth 100000 in
set_option maxHeartbeats 2000000 in
theorem spec_l1Has (S : HP) (w : World) [H : SepI w S] (A : Option Addr) (c : Nat) (l : List Int) [r : Rd S A (ints l)] (hn : l.length ≤ 1048576) (x : Int) (v : Bool) (hv : l.contains x = v) :
    Calls Try.prog 86 #[.slice A l.length c, .int .i64 x] w fun e w' => e = .returned (.bool v) ∧ w' = w := by
  obtain ⟨m, hm⟩ : ∃ m, m = l.length := ⟨_, rfl⟩
  have HM := Hd.mk hm
  have HV := Hd.mk hv
  rw [← hm] at hn ⊢
  clear hm hv
  go_enter Try.func86, Try.ntmps86
  go_wp2
  go_loopw [5] (fun v5 wr => ∃ (i : Nat), i ≤ m ∧ v5 = .int .i64 i ∧ wr = w ∧ Hd (∀ (j : Nat) (y : Int), j < i → l[j]? = some y → y ≠ x)) (fun v _ => m - (intOf v).toNat)
  case atStart => exact ⟨0, Nat.zero_le _, rfl, by first | trivial | rfl, ⟨fun j y h => absurd h (by omega)⟩⟩
  case round =>
    obtain ⟨i, hi, rfl, rfl, HB⟩ := hrel
    by_cases hlt : i < m
    · obtain ⟨y, hy⟩ := get_ex (xs := l) (k := i) (by rw [← HM.out]; exact hlt)
      obtain ⟨b0, off, rfl⟩ := r.addr H (j := i) (by rw [ints_len, ← HM.out]; exact hlt)
      have c1 := r.cell (ints_get hy)
      have HY := Hd.mk hy
      clear hy
      obtain ⟨q, hq⟩ : ∃ q, (y == x) = q := ⟨_, rfl⟩
      cases q
      · go_wp2
        go_roundw
        case rel => exact ⟨i + 1, by omega, by go_num, by first | trivial | rfl, ⟨fun j z h hz => by
          by_cases hj : j < i
          · exact HB.out j z hj hz
          · have : j = i := by omega
            subst this
            rw [HY.out] at hz
            injection hz with hz
            subst hz
            exact ne_of_beq_false hq⟩⟩
        case measure => (simp [intOf]; try omega)
      · go_wp2
        go_ret
        have : v = true := by
          rw [← HV.out]
          simp only [List.contains_iff_mem]
          rw [← eq_of_beq hq]
          exact List.mem_of_getElem? HY.out
        exact ⟨by rw [this]; rfl, rfl⟩
    · have : i = m := by omega
      subst this
      go_wp2
      go_ret
      have : v = false := by
        rw [← HV.out, Bool.eq_false_iff]
        intro hc
        obtain ⟨j, hj⟩ := List.mem_iff_getElem?.1 (List.contains_iff_mem.1 hc)
        exact HB.out j x (by rw [HM.out]; exact (List.getElem?_eq_some_iff.1 hj).1) hj rfl
      exact ⟨by rw [this]; rfl, rfl⟩
end Go.Proofs.Ytnmbmdigiaokjaa
