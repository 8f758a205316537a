/- Scans by a predicate: what is asked of a closure; slices.IndexFunc and ContainsFunc over ints. Conditions: lengths within bounds. -/
import Derived.Test.YtnioipbofopocaaDoorIn
namespace Go.Proofs.YtnioipbofopocaaDoor
open Go.RowKit SL
attribute [local go_sem] cell_blk frozen_blk lt_blk cell_at frozen_row lt_row
set_option linter.unusedVariables false
set_option linter.unusedSimpArgs false

def Enters (g : Nat) : Prop := ∀ (args : Array Value) (w : World), (callFunc g args).run Tryd.prog w = .ok (.enter g args) w
def Pred (S : HP) (g : Nat) (lb : Array Value) (x : Value) (b : Bool) : Prop := ∀ W, SepI W S → Calls Tryd.prog g (#[x] ++ lb) W fun e w' => e = .returned (.bool b) ∧ Post W S w'
def IdxPost (w : World) (S : HP) (b : Bool) (e : Ending) (w' : World) : Prop := ∃ r : Int, e = .returned (.int .i64 r) ∧ (b = true → 0 ≤ r) ∧ (b = false → r < 0) ∧ Post w S w'
def intV (x : Int) : Value := .int .i64 x
theorem any_take_succ {α : Type} {l : List α} {k : Nat} {x : α} (p : α → Bool) (h : l[k]? = some x) (h0 : (l.take k).any p = false) (h1 : p x = false) : (l.take (k + 1)).any p = false := by
  rw [take_succ_eq h, List.any_append, h0]; simp [h1]
theorem any_hit {α : Type} {l : List α} {k : Nat} {x : α} (p : α → Bool) (h : l[k]? = some x) (h1 : p x = true) : l.any p = true := List.any_eq_true.2 ⟨x, List.mem_of_getElem? h, h1⟩


theorem any_not {α : Type} (l : List α) (p : α → Bool) : l.any (fun x => !p x) = !l.all p := by
  induction l with
  | nil => rfl
  | cons x l ih => simp only [List.any_cons, List.all_cons, ih, Bool.not_and]

set_option maxHeartbeats 1000000 in
theorem indexInt (S : HP) (w : World) [H : SepI w S] (A : Option Addr) (c : Nat) (l : List Int) [r : Rd S A (ints l)] (hn : l.length ≤ 1048576) (g : Nat) (lb : Array Value) (p : Int → Bool) (eg : Enters g) (hp : ∀ x ∈ l, Pred S g lb (intV x) (p x)) :
    Calls Tryd.prog 115 #[.slice A l.length c, .func (.func g) #[] lb] w (IdxPost w S (l.any p)) := by
  obtain ⟨n, hn'⟩ : ∃ n, n = l.length := ⟨_, rfl⟩
  have HN := Hd.mk hn'
  have HP := Hd.mk hp
  rw [← hn'] at hn ⊢
  clear hn' hp
  unfold Enters at eg
  go_enter Tryd.func115, Tryd.ntmps115
  go_wp2
  go_loopw [8] (fun i wr => ∃ k : Nat, k ≤ n ∧ i = .int .i64 k ∧ Hd ((l.take k).any p = false) ∧ SepI wr S ∧ ExtI w wr) (fun i _ => n - (intOf i).toNat)
  case atStart => exact ⟨0, Nat.zero_le _, rfl, ⟨rfl⟩, inferInstance, inferInstance⟩
  case round =>
    obtain ⟨k, hk, rfl, HT, HS, HE⟩ := hrel
    by_cases hlt : k < n
    · obtain ⟨x, hx⟩ := get_ex (xs := l) (k := k) (by rw [← HN.out]; exact hlt)
      obtain ⟨b, off, rfl⟩ := r.addr H (j := k) (by rw [ints_len, ← HN.out]; omega)
      have c1 := r.cell (ints_get hx)
      have hcall : ∀ W, SepI W S → Calls Tryd.prog g (#[.int .i64 x] ++ lb) W fun e w' => e = .returned (.bool (p x)) ∧ Post W S w' := HP.out x (List.mem_of_getElem? hx)
      have HX := Hd.mk hx
      clear hx
      cases hq : p x
      · rw [hq] at hcall
        have HQ := Hd.mk hq
        have HC := Hd.mk hcall
        clear hq hcall
        go_wp2_with ((with_reducible refine (HC.out _ inferInstance).mono ?_); rintro e w' ⟨rfl, HP'⟩; have HS2 := HP'.sep; have HE2 := HP'.ext; clear HP')
        go_roundw
        case rel => exact ⟨k + 1, by omega, by go_num, ⟨any_take_succ p HX.out HT.out HQ.out⟩, inferInstance, inferInstance⟩
        case measure => simp [intOf]; omega
      · rw [hq] at hcall
        have HQ := Hd.mk hq
        have HC := Hd.mk hcall
        clear hq hcall
        go_wp2_with ((with_reducible refine (HC.out _ inferInstance).mono ?_); rintro e w' ⟨rfl, HP'⟩; have HS2 := HP'.sep; have HE2 := HP'.ext; clear HP')
        go_ret
        exact ⟨k, rfl, fun _ => by omega, (fun h => by rw [any_hit p HX.out HQ.out] at h; cases h), Post.mk' inferInstance inferInstance⟩
    · have : k = n := by omega
      subst this
      go_wp2
      go_ret
      exact ⟨-1, rfl, (fun h => by have := HT.out; rw [HN.out, List.take_length, h] at this; cases this), (fun _ => by omega), Post.mk' inferInstance inferInstance⟩

theorem containsInt (S : HP) (w : World) [H : SepI w S] (A : Option Addr) (c : Nat) (l : List Int) [r : Rd S A (ints l)] (hn : l.length ≤ 1048576) (g : Nat) (lb : Array Value) (p : Int → Bool) (v : Bool) (eg : Enters g) (hp : ∀ x ∈ l, Pred S g lb (intV x) (p x)) (hv : l.any p = v) :
    Calls Tryd.prog 82 #[.slice A l.length c, .func (.func g) #[] lb] w fun e w' => e = .returned (.bool v) ∧ Post w S w' := by
  have HP := Hd.mk hp
  have EG := Hd.mk eg
  have HV := Hd.mk hv
  clear hp eg hv
  cases v
  all_goals
    go_enter Tryd.func82, Tryd.ntmps82
    go_wp2_with (go_at_call 115; refine (indexInt _ _ _ _ l hn g lb p EG.out HP.out).mono ?_; rintro e w' ⟨r, rfl, h1, h2, HP'⟩; have HS2 := HP'.sep; have HE2 := HP'.ext; clear HP'; first | (have hr := h2 HV.out) | (have hr := h1 HV.out); clear h1 h2)
    go_ret
    exact ⟨by first | rfl | (simp; omega), Post.mk' inferInstance inferInstance⟩

def inB (n lo hi : Int) : Bool := decide (lo ≤ n ∧ n ≤ hi)
theorem inB_true {n lo hi : Int} (h : inB n lo hi = true) : lo ≤ n ∧ n ≤ hi := of_decide_eq_true h
theorem inB_false {n lo hi : Int} (h : inB n lo hi = false) : ¬ (lo ≤ n ∧ n ≤ hi) := of_decide_eq_false h
theorem inB_mk {n lo hi : Int} (h1 : lo ≤ n) (h2 : n ≤ hi) : inB n lo hi = true := decide_eq_true ⟨h1, h2⟩
theorem inB_no1 {n lo hi : Int} (h : ¬ lo ≤ n) : inB n lo hi = false := decide_eq_false fun q => h q.1
theorem inB_no2 {n lo hi : Int} (h : ¬ n ≤ hi) : inB n lo hi = false := decide_eq_false fun q => h q.2

theorem impl_in (n lo hi : Int) (v : Bool) (w : World) (hv : inB n lo hi = v) : Calls Tryd.prog 40 #[.int .i64 n, .int .i64 lo, .int .i64 hi] w fun e w' => e = .returned (.bool v) ∧ w' = w := by
  subst hv
  by_cases h1 : lo ≤ n
  · by_cases h2 : n ≤ hi
    · rw [inB_mk h1 h2]
      go_enter Tryd.func40, Tryd.ntmps40
      go_wp2
      go_ret
      exact ⟨by simp [*], rfl⟩
    · rw [inB_no2 h2]
      go_enter Tryd.func40, Tryd.ntmps40
      go_wp2
      go_ret
      exact ⟨by simp [*], rfl⟩
  · rw [inB_no1 h1]
    go_enter Tryd.func40, Tryd.ntmps40
    go_wp2
    go_ret
    exact ⟨by simp [*], rfl⟩
theorem spec_in (n lo hi : Int) (v : Bool) (w : World) (hv : inB n lo hi = v) : Calls Tryd.prog 38 #[.int .i64 n, .int .i64 lo, .int .i64 hi] w fun e w' => e = .returned (.bool v) ∧ w' = w := by
  subst hv
  by_cases h1 : lo ≤ n
  · by_cases h2 : n ≤ hi
    · rw [inB_mk h1 h2]
      go_enter Tryd.func38, Tryd.ntmps38
      go_wp2
      go_ret
      exact ⟨by simp [*], rfl⟩
    · rw [inB_no2 h2]
      go_enter Tryd.func38, Tryd.ntmps38
      go_wp2
      go_ret
      exact ⟨by simp [*], rfl⟩
  · rw [inB_no1 h1]
    go_enter Tryd.func38, Tryd.ntmps38
    go_wp2
    go_ret
    exact ⟨by simp [*], rfl⟩
theorem bne_of {a b : Int} (h : ¬ a = b) : (a == b) = false := by simpa using h
theorem beq_of {a b : Int} (h : a = b) : (a == b) = true := by simpa using h
end Go.Proofs.YtnioipbofopocaaDoor
