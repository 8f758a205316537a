/- slices.EqualFunc over ints by a closure's contract. Conditions: lengths within bounds. -/
import Derived.Test.YtmallhlddilmcaaTb
namespace Go.Proofs.Ytmallhlddilmcaa
open Go.RowKit SL
attribute [local go_sem] cell_blk frozen_blk lt_blk cell_at frozen_row lt_row
set_option linter.unusedVariables false
set_option linter.unusedSimpArgs false

def eq2 (p : Int → Int → Bool) : List Int → List Int → Bool
  | [], [] => true
  | x :: xs, y :: ys => p x y && eq2 p xs ys
  | _, _ => false
theorem eq2_len {p : Int → Int → Bool} : ∀ {xs ys : List Int}, xs.length ≠ ys.length → eq2 p xs ys = false
  | [], [], h => absurd rfl h
  | [], _ :: _, _ => rfl
  | _ :: _, [], _ => rfl
  | x :: xs, y :: ys, h => by rw [eq2, eq2_len (by simpa using h), Bool.and_false]
theorem eq2_snoc {p : Int → Int → Bool} : ∀ {xs ys : List Int} {x y : Int}, xs.length = ys.length → eq2 p (xs ++ [x]) (ys ++ [y]) = (eq2 p xs ys && p x y)
  | [], [], x, y, _ => by simp [eq2]
  | a :: xs, b :: ys, x, y, h => by
    show (p a b && eq2 p (xs ++ [x]) (ys ++ [y])) = (p a b && eq2 p xs ys && p x y)
    rw [eq2_snoc (by simpa using h), Bool.and_assoc]
theorem eq2_take {p : Int → Int → Bool} {xs ys : List Int} {k : Nat} {x y : Int} (hl : xs.length = ys.length) (hx : xs[k]? = some x) (hy : ys[k]? = some y) : eq2 p (xs.take (k + 1)) (ys.take (k + 1)) = (eq2 p (xs.take k) (ys.take k) && p x y) := by
  rw [take_succ_eq hx, take_succ_eq hy, eq2_snoc (by simp [hl])]
theorem eq2_miss {p : Int → Int → Bool} : ∀ {xs ys : List Int} {k : Nat} {x y : Int}, xs[k]? = some x → ys[k]? = some y → p x y = false → eq2 p xs ys = false
  | [], _, _, _, _, h, _, _ => by simp at h
  | _ :: _, [], _, _, _, _, h, _ => by simp at h
  | a :: xs, b :: ys, 0, x, y, hx, hy, h => by simp at hx hy; subst hx; subst hy; rw [eq2, h]; rfl
  | a :: xs, b :: ys, k + 1, x, y, hx, hy, h => by rw [eq2, eq2_miss (by simpa using hx) (by simpa using hy) h, Bool.and_false]

set_option maxHeartbeats 2000000 in
theorem equalFunc (S : HP) (w : World) [H : SepI w S] (A B : Option Addr) (ca cb : Nat) (xs ys : List Int) [ra : Rd S A (ints xs)] [rb : Rd S B (ints ys)] (hx : xs.length ≤ 1048576) (hy : ys.length ≤ 1048576) (g : Nat) (lb : Array Value) (p : Int → Int → Bool) (eg : Enters g)
    (hp : ∀ x ∈ xs, ∀ y ∈ ys, ∀ W, SepI W S → Calls Try.prog g (#[.int .i64 x, .int .i64 y] ++ lb) W fun e w' => e = .returned (.bool (p x y)) ∧ Post W S w') :
    Calls Try.prog 84 #[.slice A xs.length ca, .slice B ys.length cb, .func (.func g) #[] lb] w fun e w' => e = .returned (.bool (eq2 p xs ys)) ∧ Post w S w' := by
  have HP := Hd.mk hp
  clear hp
  unfold Enters at eg
  by_cases hl : xs.length = ys.length
  · obtain ⟨n, hn⟩ : ∃ n, n = xs.length := ⟨_, rfl⟩
    have hn' : n = ys.length := hn.trans hl
    rw [← hn', ← hn]
    rw [← hn] at hx
    have HN := Hd.mk hn
    have HN' := Hd.mk hn'
    clear hl hn hn' hy
    go_enter Try.func84, Try.ntmps84
    go_wp2
    go_loopw [17] (fun i wr => ∃ k : Nat, k ≤ n ∧ i = .int .i64 k ∧ Hd (eq2 p (xs.take k) (ys.take k) = true) ∧ SepI wr S ∧ ExtI w wr) (fun i _ => n - (intOf i).toNat)
    case atStart => exact ⟨0, Nat.zero_le _, rfl, ⟨rfl⟩, inferInstance, inferInstance⟩
    case round =>
      obtain ⟨k, hk, rfl, HT, HS, HE⟩ := hrel
      by_cases hlt : k < n
      · obtain ⟨x, hx'⟩ := get_ex (xs := xs) (k := k) (by rw [← HN.out]; exact hlt)
        obtain ⟨y, hy'⟩ := get_ex (xs := ys) (k := k) (by rw [← HN'.out]; exact hlt)
        obtain ⟨b, off, rfl⟩ := ra.addr H (j := k) (by rw [ints_len, ← HN.out]; exact hlt)
        obtain ⟨b', off', rfl⟩ := rb.addr H (j := k) (by rw [ints_len, ← HN'.out]; exact hlt)
        have c1 := ra.cell (ints_get hx')
        have c2 := rb.cell (ints_get hy')
        have hcall : ∀ W, SepI W S → Calls Try.prog g (#[.int .i64 x, .int .i64 y] ++ lb) W fun e w' => e = .returned (.bool (p x y)) ∧ Post W S w' := HP.out x (List.mem_of_getElem? hx') y (List.mem_of_getElem? hy')
        have HX := Hd.mk hx'
        have HY := Hd.mk hy'
        clear hx' hy'
        cases hq : p x y
        all_goals
          rw [hq] at hcall
          have HQ := Hd.mk hq
          have HC := Hd.mk hcall
          clear hq hcall
          go_wp2_with ((with_reducible refine (HC.out _ inferInstance).mono ?_); rintro e w' ⟨rfl, HP'⟩; have HS2 := HP'.sep; have HE2 := HP'.ext; clear HP')
        · go_ret
          exact ⟨ret_b (by rw [eq2_miss HX.out HY.out HQ.out]), Post.mk' inferInstance inferInstance⟩
        · go_roundw
          case rel => exact ⟨k + 1, by omega, by go_num, ⟨by rw [eq2_take (HN.out.symm.trans HN'.out) HX.out HY.out, HT.out, HQ.out]; rfl⟩, inferInstance, inferInstance⟩
          case measure => simp [intOf]; omega
      · have : k = n := by omega
        subst this
        go_wp2
        go_ret
        exact ⟨ret_b (by have := HT.out; rw [HN.out, List.take_length, ← HN.out, HN'.out, List.take_length] at this; exact this.symm), Post.mk' inferInstance inferInstance⟩
  · have hf : eq2 p xs ys = false := eq2_len hl
    rw [hf]
    clear hf
    have HL := Hd.mk hl
    have hbn : ((xs.length : Int) == (ys.length : Int)) = false := by simp; omega
    go_enter Try.func84, Try.ntmps84
    go_wp2
    go_ret
    exact ⟨rfl, Post.mk' inferInstance inferInstance⟩
end Go.Proofs.Ytmallhlddilmcaa
