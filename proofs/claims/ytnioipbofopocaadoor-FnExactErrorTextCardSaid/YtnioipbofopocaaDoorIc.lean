/- The program's IsProgram, with its closures, and the reference's. Conditions: lengths within bounds. -/
import Derived.Test.YtnioipbofopocaaDoorIs
import Derived.Test.YtnioipbofopocaaDoorIt
namespace Go.Proofs.YtnioipbofopocaaDoor
open Go.RowKit SL
attribute [local go_sem] cell_blk frozen_blk lt_blk cell_at frozen_row lt_row
set_option linter.unusedVariables false
set_option linter.unusedSimpArgs false

def stV (x : St) : Value := .agg #[.int .i64 x.k, .int .i64 x.a, .int .i64 x.b]
def bdV (x : Bd) : Value := .slice x.p x.l.length x.c
set_option maxHeartbeats 1000000 in
theorem indexStep (S : HP) (w : World) [H : SepI w S] (A : Option Addr) (c : Nat) (l : List St) [r : Rd S A (cSts l)] (hn : l.length ≤ 1048576) (g : Nat) (lb : Array Value) (p : St → Bool) (eg : Enters g) (hp : ∀ x ∈ l, Pred S g lb (stV x) (p x)) :
    Calls Tryd.prog 121 #[.slice A l.length c, .func (.func g) #[] lb] w (IdxPost w S (l.any p)) := by
  obtain ⟨n, hn'⟩ : ∃ n, n = l.length := ⟨_, rfl⟩
  have HN := Hd.mk hn'
  have HP := Hd.mk hp
  rw [← hn'] at hn ⊢
  clear hn' hp
  unfold Enters at eg
  go_enter Tryd.func121, Tryd.ntmps121
  go_wp2
  go_loopw [8] (fun i wr => ∃ k : Nat, k ≤ n ∧ i = .int .i64 k ∧ Hd ((l.take k).any p = false) ∧ SepI wr S ∧ ExtI w wr) (fun i _ => n - (intOf i).toNat)
  case atStart => exact ⟨0, Nat.zero_le _, rfl, ⟨rfl⟩, inferInstance, inferInstance⟩
  case round =>
    obtain ⟨k, hk, rfl, HT, HS, HE⟩ := hrel
    by_cases hlt : k < n
    · obtain ⟨x, hx⟩ := get_ex (xs := l) (k := k) (by rw [← HN.out]; exact hlt)
      obtain ⟨b, off, rfl⟩ := r.addr H (j := k) (by rw [cSts_len, ← HN.out]; omega)
      have c1 := r.cell (cSts_get hx).1
      have c2 := r.cell (cSts_get hx).2.1
      have c3 := r.cell (cSts_get hx).2.2
      have hcall : ∀ W, SepI W S → Calls Tryd.prog g (#[.agg #[.int .i64 x.k, .int .i64 x.a, .int .i64 x.b]] ++ lb) W fun e w' => e = .returned (.bool (p x)) ∧ Post W S w' := HP.out x (List.mem_of_getElem? hx)
      have HX := Hd.mk hx
      clear hx
      cases hq : p x
      · rw [hq] at hcall
        have HQ := Hd.mk hq
        have HC := Hd.mk hcall
        clear hq hcall
        go_wp2_with ((with_reducible refine (HC.out _ inferInstance).mono ?_); rintro e w' ⟨rfl, HP'⟩; have HS2 := HP'.sep; have HE2 := HP'.ext; clear HP')
        go_roundw
        case rel => exact ⟨k + 1, by omega, by go_num, ⟨any_take_succ p HX.out HT.out HQ.out⟩, inferInstance, inferInstance⟩
        case measure => simp [intOf]; omega
      · rw [hq] at hcall
        have HQ := Hd.mk hq
        have HC := Hd.mk hcall
        clear hq hcall
        go_wp2_with ((with_reducible refine (HC.out _ inferInstance).mono ?_); rintro e w' ⟨rfl, HP'⟩; have HS2 := HP'.sep; have HE2 := HP'.ext; clear HP')
        go_ret
        exact ⟨k, rfl, fun _ => by omega, (fun h => by rw [any_hit p HX.out HQ.out] at h; cases h), Post.mk' inferInstance inferInstance⟩
    · have : k = n := by omega
      subst this
      go_wp2
      go_ret
      exact ⟨-1, rfl, (fun h => by have := HT.out; rw [HN.out, List.take_length, h] at this; cases this), (fun _ => by omega), Post.mk' inferInstance inferInstance⟩

theorem containsStep (S : HP) (w : World) [H : SepI w S] (A : Option Addr) (c : Nat) (l : List St) [r : Rd S A (cSts l)] (hn : l.length ≤ 1048576) (g : Nat) (lb : Array Value) (p : St → Bool) (v : Bool) (eg : Enters g) (hp : ∀ x ∈ l, Pred S g lb (stV x) (p x)) (hv : l.any p = v) :
    Calls Tryd.prog 90 #[.slice A l.length c, .func (.func g) #[] lb] w fun e w' => e = .returned (.bool v) ∧ Post w S w' := by
  have HP := Hd.mk hp
  have EG := Hd.mk eg
  have HV := Hd.mk hv
  clear hp eg hv
  cases v
  all_goals
    go_enter Tryd.func90, Tryd.ntmps90
    go_wp2_with (go_at_call 121; refine (indexStep _ _ _ _ l hn g lb p EG.out HP.out).mono ?_; rintro e w' ⟨r, rfl, h1, h2, HP'⟩; have HS2 := HP'.sep; have HE2 := HP'.ext; clear HP'; first | (have hr := h2 HV.out) | (have hr := h1 HV.out); clear h1 h2)
    go_ret
    exact ⟨by first | rfl | (simp; omega), Post.mk' inferInstance inferInstance⟩

set_option maxHeartbeats 1000000 in
theorem indexBody (S : HP) (w : World) [H : SepI w S] (A : Option Addr) (c : Nat) (l : List Bd) [r : Rd S A (cBds l)] (hn : l.length ≤ 1048576) (g : Nat) (lb : Array Value) (p : Bd → Bool) (eg : Enters g) (hp : ∀ x ∈ l, Pred S g lb (bdV x) (p x)) :
    Calls Tryd.prog 120 #[.slice A l.length c, .func (.func g) #[] lb] w (IdxPost w S (l.any p)) := by
  obtain ⟨n, hn'⟩ : ∃ n, n = l.length := ⟨_, rfl⟩
  have HN := Hd.mk hn'
  have HP := Hd.mk hp
  rw [← hn'] at hn ⊢
  clear hn' hp
  unfold Enters at eg
  go_enter Tryd.func120, Tryd.ntmps120
  go_wp2
  go_loopw [8] (fun i wr => ∃ k : Nat, k ≤ n ∧ i = .int .i64 k ∧ Hd ((l.take k).any p = false) ∧ SepI wr S ∧ ExtI w wr) (fun i _ => n - (intOf i).toNat)
  case atStart => exact ⟨0, Nat.zero_le _, rfl, ⟨rfl⟩, inferInstance, inferInstance⟩
  case round =>
    obtain ⟨k, hk, rfl, HT, HS, HE⟩ := hrel
    by_cases hlt : k < n
    · obtain ⟨x, hx⟩ := get_ex (xs := l) (k := k) (by rw [← HN.out]; exact hlt)
      obtain ⟨b, off, rfl⟩ := r.addr H (j := k) (by rw [cBds_len, ← HN.out]; omega)
      have c1 := r.cell (cBds_get hx)
      have hcall : ∀ W, SepI W S → Calls Tryd.prog g (#[.slice x.p x.l.length x.c] ++ lb) W fun e w' => e = .returned (.bool (p x)) ∧ Post W S w' := HP.out x (List.mem_of_getElem? hx)
      have HX := Hd.mk hx
      clear hx
      cases hq : p x
      · rw [hq] at hcall
        have HQ := Hd.mk hq
        have HC := Hd.mk hcall
        clear hq hcall
        go_wp2_with ((with_reducible refine (HC.out _ inferInstance).mono ?_); rintro e w' ⟨rfl, HP'⟩; have HS2 := HP'.sep; have HE2 := HP'.ext; clear HP')
        go_roundw
        case rel => exact ⟨k + 1, by omega, by go_num, ⟨any_take_succ p HX.out HT.out HQ.out⟩, inferInstance, inferInstance⟩
        case measure => simp [intOf]; omega
      · rw [hq] at hcall
        have HQ := Hd.mk hq
        have HC := Hd.mk hcall
        clear hq hcall
        go_wp2_with ((with_reducible refine (HC.out _ inferInstance).mono ?_); rintro e w' ⟨rfl, HP'⟩; have HS2 := HP'.sep; have HE2 := HP'.ext; clear HP')
        go_ret
        exact ⟨k, rfl, fun _ => by omega, (fun h => by rw [any_hit p HX.out HQ.out] at h; cases h), Post.mk' inferInstance inferInstance⟩
    · have : k = n := by omega
      subst this
      go_wp2
      go_ret
      exact ⟨-1, rfl, (fun h => by have := HT.out; rw [HN.out, List.take_length, h] at this; cases this), (fun _ => by omega), Post.mk' inferInstance inferInstance⟩

theorem containsBody (S : HP) (w : World) [H : SepI w S] (A : Option Addr) (c : Nat) (l : List Bd) [r : Rd S A (cBds l)] (hn : l.length ≤ 1048576) (g : Nat) (lb : Array Value) (p : Bd → Bool) (v : Bool) (eg : Enters g) (hp : ∀ x ∈ l, Pred S g lb (bdV x) (p x)) (hv : l.any p = v) :
    Calls Tryd.prog 88 #[.slice A l.length c, .func (.func g) #[] lb] w fun e w' => e = .returned (.bool v) ∧ Post w S w' := by
  have HP := Hd.mk hp
  have EG := Hd.mk eg
  have HV := Hd.mk hv
  clear hp eg hv
  cases v
  all_goals
    go_enter Tryd.func88, Tryd.ntmps88
    go_wp2_with (go_at_call 120; refine (indexBody _ _ _ _ l hn g lb p EG.out HP.out).mono ?_; rintro e w' ⟨r, rfl, h1, h2, HP'⟩; have HS2 := HP'.sep; have HE2 := HP'.ext; clear HP'; first | (have hr := h2 HV.out) | (have hr := h1 HV.out); clear h1 h2)
    go_ret
    exact ⟨by first | rfl | (simp; omega), Post.mk' inferInstance inferInstance⟩

theorem enters_step : Enters 91 := fun _ _ => by go_simp
theorem enters_body : Enters 89 := fun _ _ => by go_simp

/-- A valid body, a valid program. -/
def bodyB (n : Nat) (l : List St) : Bool := decide (l.length ≤ 8) && l.all (stepB · n)
def progB (L : List (List St)) : Bool := inB L.length 1 6 && L.all (bodyB L.length)

theorem isProgram11 (S : HP) (w : World) [H : SepI w S] (bp : Nat) (A : Option Addr) (c n : Nat) (hn : n ≤ 1048576) [HasBlk S bp (.cells #[.slice A n c] 48 (0, 0))] (x : St) (v : Bool) (hv : stepB x n = v) :
    Calls Tryd.prog 91 #[stV x, .pointer (some ⟨bp, 0, none⟩)] w fun e w' => e = .returned (.bool (!v)) ∧ Post w S w' := by
  have HV := Hd.mk hv
  clear hv
  unfold stV
  cases v
  all_goals
    go_enter Tryd.func91, Tryd.ntmps91
    go_wp2_with (go_at_call 92; refine (impl_isStep _ _ x n _ hn HV.out).mono ?_; rintro e w' ⟨rfl, HP'⟩; have HS2 := HP'.sep; have HE2 := HP'.ext; clear HP')
    go_ret
    exact ⟨rfl, Post.mk' (Ent.sep (S := _) inferInstance inferInstance) inferInstance⟩

theorem isProgram1 (S : HP) (w : World) [H : SepI w S] (bp : Nat) (A : Option Addr) (c n : Nat) (hn : n ≤ 1048576) [hb : HasBlk S bp (.cells #[.slice A n c] 48 (0, 0))] (x : Bd) [rx : Rd S x.p (cSts x.l)] (hx : x.l.length ≤ 1048576) (v : Bool) (hv : bodyB n x.l = v) :
    Calls Tryd.prog 89 #[bdV x, .pointer (some ⟨bp, 0, none⟩)] w fun e w' => e = .returned (.bool (!v)) ∧ Post w S w' := by
  unfold bdV
  have hmf : ∀ (fn : Fn) (first cap : Array Value) (w : World), (Instr.makeFunc fn first cap).run Tryd.prog w = .ok (.func fn first cap) w := fun _ _ _ _ => rfl
  have hp : ∀ y ∈ x.l, Pred S 91 #[.pointer (some ⟨bp, 0, none⟩)] (stV y) (!stepB y n) := fun y _ W HW => isProgram11 S W bp A c n hn y _ rfl
  have HP := Hd.mk hp
  clear hp
  unfold bodyB at hv
  by_cases h8 : x.l.length ≤ 8
  · rw [decide_eq_true h8, Bool.true_and] at hv
    have HV : Hd (x.l.any (fun y => !stepB y n) = !v) := ⟨by rw [any_not, hv]⟩
    obtain ⟨m, hm⟩ : ∃ m, m = x.l.length := ⟨_, rfl⟩
    have HM := Hd.mk hm
    rw [← hm] at h8 ⊢
    clear hv hm hx
    go_enter Tryd.func89, Tryd.ntmps89
    go_wp2_with fail
    rw [HM.out]
    refine (containsStep _ _ _ _ x.l (by rw [← HM.out]; omega) _ _ _ _ enters_step HP.out HV.out).mono ?_
    rintro e w' ⟨rfl, HP'⟩
    have HS2 := HP'.sep
    have HE2 := HP'.ext
    clear HP'
    go_wp2
    go_ret
    exact ⟨ret_b (by rw [decide_eq_false (by rw [← HM.out]; omega), Bool.false_or]), Post.mk' inferInstance inferInstance⟩
  · have : v = false := by rw [← hv, decide_eq_false h8, Bool.false_and]
    subst this
    have h8' : 8 < x.l.length := by omega
    clear hv h8
    go_enter Tryd.func89, Tryd.ntmps89
    go_wp2
    go_ret
    exact ⟨rfl, Post.mk' inferInstance inferInstance⟩

theorem impl_IsProgram (S : HP) (w : World) [H : SepI w S] (A : Option Addr) (c : Nat) (bs : List Bd) [r : Rd S A (cBds bs)] [B : Bodies S bs] (v : Bool) (hv : progB (bs.map (·.l)) = v) :
    Calls Tryd.prog 63 #[.agg #[.slice A bs.length c]] w fun e w' => e = .returned (.bool v) ∧ Post w S w' := by
  have hmf : ∀ (fn : Fn) (first cap : Array Value) (w : World), (Instr.makeFunc fn first cap).run Tryd.prog w = .ok (.func fn first cap) w := fun _ _ _ _ => rfl
  unfold progB at hv
  rw [List.length_map] at hv
  have hn := B.n
  have HB := Hd.mk B
  clear B
  cases hi : inB bs.length 1 6
  · have HI := Hd.mk hi
    rw [hi, Bool.false_and] at hv
    subst hv
    clear hi
    go_enter Tryd.func63, Tryd.ntmps63
    go_wp2_with (go_at_call 40; refine (impl_in _ _ _ _ _ HI.out).mono ?_; rintro e w' ⟨rfl, rfl⟩)
    go_ret
    exact ⟨rfl, Post.mk' (Ent.sep (S := _) inferInstance inferInstance) inferInstance⟩
  · have HI := Hd.mk hi
    rw [hi, Bool.true_and] at hv
    have HV : Hd (bs.any (fun x => !bodyB bs.length x.l) = !v) := ⟨by rw [any_not bs (fun x => bodyB bs.length x.l), ← hv, List.all_map]; rfl⟩
    clear hi hv
    go_enter Tryd.func63, Tryd.ntmps63
    go_wp2_with (go_at_call 40; refine (impl_in _ _ _ _ _ HI.out).mono ?_; rintro e w' ⟨rfl, rfl⟩)
    refine (containsBody _ _ _ _ bs hn _ _ (fun x => !bodyB bs.length x.l) _ enters_body (fun x hx W HW => ?_) HV.out).mono ?_
    · have := HB.out.rd x hx
      exact isProgram1 _ W _ A c bs.length hn x (HB.out.small x hx) _ rfl
    rintro e w' ⟨rfl, HP'⟩
    have HS2 := HP'.sep
    have HE2 := HP'.ext
    clear HP'
    go_wp2
    go_ret
    exact ⟨by simp, Post.mk' (Ent.sep (S := _) inferInstance inferInstance) inferInstance⟩
end Go.Proofs.YtnioipbofopocaaDoor
