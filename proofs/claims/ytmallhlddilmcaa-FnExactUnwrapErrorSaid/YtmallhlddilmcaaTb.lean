/- What is told of each error out of what is told of its parts: the program's each[int] by a closure's contract. Conditions: lengths within bounds. -/
import Derived.Test.YtmallhlddilmcaaHs
import Derived.StillTailTactics
namespace Go.Proofs.Ytmallhlddilmcaa
open Go.RowKit SL
attribute [local go_sem] cell_blk frozen_blk lt_blk cell_at frozen_row lt_row
set_option linter.unusedVariables false
set_option linter.unusedSimpArgs false

theorem ints_set (l : List Int) (k : Nat) (x : Int) : (ints l).set k (.int .i64 x) = ints (l.set k x) := by simp [ints, List.map_set]
/-- A table, told from its end: m entries are told. -/
def tabF (n : Nat) (of : Nat → List Int → Int) : Nat → List Int
  | 0 => List.replicate n 0
  | m + 1 => (tabF n of m).set (n - 1 - m) (of (n - 1 - m) (tabF n of m))
theorem tabF_len (n : Nat) (of : Nat → List Int → Int) (m : Nat) : (tabF n of m).length = n := by
  induction m with
  | zero => simp [tabF]
  | succ m ih => simp [tabF, ih]
theorem tabF_next {n k : Nat} (of : Nat → List Int → Int) (h : k < n) : tabF n of (n - k) = (tabF n of (n - (k + 1))).set k (of k (tabF n of (n - (k + 1)))) := by
  rw [show n - k = (n - (k + 1)) + 1 from by omega, tabF, show n - 1 - (n - (k + 1)) = k from by omega]
/-- What the closure of a table is asked. -/
def TellP (S : HP) (g : Nat) (lb : Array Value) (n : Nat) (of : Nat → List Int → Int) (k : Nat) : Prop :=
  ∀ (b : Nat) (W : World), SepI W (Row 3 1 (.slice (some ⟨b, 0, none⟩) n n) n (ints (tabF n of (n - (k + 1)))) * S) →
    Calls Try.prog g (#[.int .i64 k, .slice (some ⟨b, 0, none⟩) n n] ++ lb) W fun e w' => e = .returned (.int .i64 (of k (tabF n of (n - (k + 1))))) ∧
      Post W (Row 3 1 (.slice (some ⟨b, 0, none⟩) n n) n (ints (tabF n of (n - (k + 1)))) * S) w'

set_option maxRecDepth 100000 in
set_option maxHeartbeats 4000000 in
theorem eachInt (S : HP) (w : World) [H : SepI w S] (A : Option Addr) (c : Nat) (n : Nat) (hn : n ≤ 1048576) (g : Nat) (lb : Array Value) (of : Nat → List Int → Int) (eg : Enters g)
    (hp : ∀ S' : HP, ∀ k, k < n → TellP (S' * S) g lb n of k) : Calls Try.prog 72 #[.agg #[.slice A n c], .func (.func g) #[] lb] w
      fun e w' => ∃ b, e = .returned (.slice (some ⟨b, 0, none⟩) n n) ∧ Post w (Row 3 1 (.slice (some ⟨b, 0, none⟩) n n) n (ints (tabF n of n)) * S) w' := by
  have HPR := Hd.mk hp
  clear hp
  unfold Enters at eg
  go_enter Try.func72, Try.ntmps72
  obtain ⟨be, hbe⟩ : ∃ be, be = w.heap.size := ⟨_, rfl⟩
  go_wp2_with (refine ev_make rfl 62 _ _ rfl n rfl rfl 3 1 8 _ Try.underlying62 info_int rfl (by decide) (by decide) (by omega) ?_; rw [ints_zeros]; intro b w1 HS1 HE1)
  rw [← hbe] at HS1
  clear hbe
  go_loopw [6] (fun i wr => ∃ (k : Nat), k ≤ n ∧ i = .int .i64 ((k : Int) - 1) ∧ ExtI w wr ∧
    SepI wr (Row 3 1 (.slice (some ⟨b, 0, none⟩) n n) n (ints (tabF n of (n - k))) * (pts be (.cells #[.slice A n c] 40 (0, 0)) * S))) (fun i _ => (intOf i + 1).toNat)
  case atStart => exact ⟨n, Nat.le_refl _, by go_num, inferInstance, by rw [Nat.sub_self]; exact HS1⟩
  case round =>
    obtain ⟨k, hk, rfl, HX, HS⟩ := hrel
    by_cases hlt : 0 < k
    · obtain ⟨j, rfl⟩ : ∃ j, k = j + 1 := ⟨k - 1, by omega⟩
      have e1 : ((j + 1 : Nat) : Int) - 1 = j := by omega
      rw [e1]
      obtain ⟨z, hz⟩ := get_ex (xs := tabF n of (n - (j + 1))) (k := j) (by rw [tabF_len]; omega)
      have d1 : CellAt _ b _ _ := Row.cellAt (e := 3) (size := 1) (g := b) (n := n) (c := n) (F := pts be (.cells #[.slice A n c] 40 (0, 0)) * S) (ints_get hz)
      clear hz
      have hcall : ∀ W, SepI W _ → Calls Try.prog g (#[.int .i64 j, .slice (some ⟨b, 0, none⟩) n n] ++ lb) W _ := HPR.out (pts be (.cells #[.slice A n c] 40 (0, 0))) j (by omega) b
      have HC := Hd.mk hcall
      clear hcall
      go_wp2_with ((with_reducible refine (HC.out _ inferInstance).mono ?_); rintro e w' ⟨rfl, HP'⟩; have HS2 := HP'.sep; have HE2 := HP'.ext; clear HP')
      go_roundw
      case rel => exact ⟨j, by omega, by go_num, inferInstance, SepI.cast inferInstance (by rw [ints_set, ← tabF_next of (by omega)])⟩
      case measure => simp [intOf]
    · have : k = 0 := by omega
      subst this
      go_wp2
      go_ret
      exact ⟨b, rfl, Post.mk' (Ent.sep (S := _) inferInstance inferInstance) inferInstance⟩
end Go.Proofs.Ytmallhlddilmcaa
