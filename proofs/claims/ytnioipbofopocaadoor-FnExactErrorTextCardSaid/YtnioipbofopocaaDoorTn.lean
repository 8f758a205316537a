/- Numbers as texts: FormatInt by the program and by the reference. Conditions: the table of powers of ten reads as it is laid. -/
import Derived.Test.YtnioipbofopocaaDoorTa
import Derived.Test.YtnioipbofopocaaDoorSc
import Derived.Lib.ItoaLen
import Derived.Laws.DeepStrings4
namespace Go.Proofs.YtnioipbofopocaaDoor
open Go.RowKit SL
attribute [local go_sem] cell_blk frozen_blk lt_blk cell_at frozen_row lt_row
set_option linter.unusedVariables false
set_option linter.unusedSimpArgs false

def StrOk (S : HP) (a : ByteArray × Bool) (w : World) (e : Ending) (w' : World) : Prop := e = .returned (.tuple #[.string a.1, .bool a.2]) ∧ Post w S w'
theorem dec_size {u : Nat} (h : u < 18446744073709551616) : (mkT (Lib.decDigits u)).size ≤ 20 := by rw [mkT_size, Lib.decDigits_length]; exact Lib.nDigits_le20 u h
theorem digs_cut {r : Nat} (h : r < 10) (w : World) : (Instr.slice 9 (.string ⟨#[48, 49, 50, 51, 52, 53, 54, 55, 56, 57]⟩) (some (.int .i64 (r : Int))) (some (.int .i64 ((r : Int) + 1))) none).run Tryd.prog w = .ok (.string (mkT (Lib.decDigits r))) w := by
  have e : digs.extract r (r + 1) = mkT (Lib.decDigits r) := digs_at r h
  rw [run_slice_string_if w 9 _ .i64 .i64 (r : Int) ((r : Int) + 1) Tryd.underlying9, if_pos ⟨by omega, by show (r : Int) + 1 ≤ 10; omega⟩, if_pos ⟨by omega, by omega⟩, Int.toNat_natCast, show ((r : Int) + 1).toNat = r + 1 from by omega]
  exact congrArg (fun x => Result.ok (Value.string x) w) e
theorem dec_next {u : Nat} (h : ¬ u < 10) : mkT (Lib.decDigits (u / 10)) ++ mkT (Lib.decDigits (u % 10)) = mkT (Lib.decDigits u) := by rw [mkT_append, ← decDigits_more h]
set_option maxRecDepth 100000 in
set_option maxHeartbeats 4000000 in
theorem spec_l1Num : ∀ (d u : Nat), u < 10 ^ d → u < 9223372036854775807 → ∀ w, Calls Tryd.prog 39 #[.int .i64 (u : Int)] w fun e w' => e = .returned (.string (mkT (Lib.decDigits u))) ∧ ∃ m, w' = w.drewN m
  | 0, u, h, hb, w => by
    have h0 : u = 0 := by simp at h; omega
    subst h0
    have hd0 : ByteArray.extract ⟨#[48, 49, 50, 51, 52, 53, 54, 55, 56, 57]⟩ 0 1 = mkT (Lib.decDigits 0) := digs_at 0 (by omega)
    have HD0 := Hd.mk hd0
    clear hd0
    go_enter Tryd.func39, Tryd.ntmps39
    go_wp2
    go_ret
    exact ⟨by rw [← HD0.out]; rfl, 0, rfl⟩
  | d + 1, u, h, hb, w => by
    by_cases h10 : u < 10
    · have hd : ByteArray.extract ⟨#[48, 49, 50, 51, 52, 53, 54, 55, 56, 57]⟩ u (u + 1) = mkT (Lib.decDigits u) := digs_at u h10
      have hi : (u : Int) < 10 := by omega
      have hw : IntKind.i64.wrap ((u : Int) + 1) = (u : Int) + 1 := IntWalk.i64_in _ (by omega)
      have ht : ((u : Int) + 1).toNat = u + 1 := by omega
      clear h
      go_enter Tryd.func39, Tryd.ntmps39
      go_wp2
      go_ret
      exact ⟨rfl, 0, rfl⟩
    · obtain ⟨q, hq⟩ : ∃ q, u / 10 = q := ⟨_, rfl⟩
      obtain ⟨r, hr⟩ : ∃ r, u % 10 = r := ⟨_, rfl⟩
      have HN : Hd (mkT (Lib.decDigits q) ++ mkT (Lib.decDigits r) = mkT (Lib.decDigits u)) := ⟨by rw [← hq, ← hr]; exact dec_next h10⟩
      have hrl : r < 10 := by omega
      have hd := fun w => digs_cut hrl w
      have IH : Hd (∀ w, Calls Tryd.prog 39 #[.int .i64 (q : Int)] w fun e w' => e = .returned (.string (mkT (Lib.decDigits q))) ∧ ∃ m, w' = w.drewN m) := ⟨fun w => spec_l1Num d q (by rw [Nat.pow_succ] at h; omega) (by omega) w⟩
      have hsa : (mkT (Lib.decDigits q)).size ≤ 20 := dec_size (by omega)
      have hsb : (mkT (Lib.decDigits r)).size ≤ 20 := dec_size (by omega)
      obtain ⟨x, hx⟩ : ∃ x, mkT (Lib.decDigits q) = x := ⟨_, rfl⟩
      obtain ⟨y, hy⟩ : ∃ y, mkT (Lib.decDigits r) = y := ⟨_, rfl⟩
      rw [hx] at hsa HN IH
      rw [hy] at hsb HN hd
      have hnn : ¬ (u : Int) < 0 := by omega
      have hn10 : ¬ (u : Int) < 10 := by omega
      have hdv : (u : Int).tdiv 10 = (q : Int) := by rw [Int.tdiv_eq_ediv_of_nonneg (by omega)]; omega
      have hmd : (u : Int).tmod 10 = (r : Int) := by rw [Int.tmod_eq_emod_of_nonneg (by omega)]; omega
      have hw : IntKind.i64.wrap ((r : Int) + 1) = (r : Int) + 1 := IntWalk.i64_in _ (by omega)
      have hwq : IntKind.i64.wrap (q : Int) = (q : Int) := IntWalk.i64_in _ (by omega)
      have hwr : IntKind.i64.wrap (r : Int) = (r : Int) := IntWalk.i64_in _ (by omega)
      have ht : ((r : Int) + 1).toNat = r + 1 := by omega
      have hri : (r : Int) < 10 := by omega
      clear h hx hy hq hr
      go_enter Tryd.func39, Tryd.ntmps39
      go_wp2
      go_quiet ((go_at_call 39; exact Calls.quiet_of (IH.out _)))
      go_wp2
      go_ret
      rw [HN.out]
      exact ⟨rfl, _, rfl⟩
set_option maxRecDepth 100000 in
set_option maxHeartbeats 4000000 in
theorem spec_l1NumA (S : HP) (w : World) [H : SepI w S] (n : Int) (h0 : -9223372036854775807 < n) (h1 : n < 9223372036854775807) :
    Calls Tryd.prog 39 #[.int .i64 n] w fun e w' => e = .returned (.string (numB n)) ∧ Post w S w' := by
  by_cases hn : n < 0
  · obtain ⟨u, rfl⟩ : ∃ u : Nat, n = -(u : Int) := ⟨n.natAbs, by omega⟩
    have hd := spec_l1Num 64 u (by have : (9223372036854775807 : Nat) < 10 ^ 64 := by decide
                                   omega) (by omega)
    have HN : Hd (mkT [45] ++ mkT (Lib.decDigits u) = numB (-(u : Int))) := ⟨by unfold numB; rw [mkT_append, Lib.itoa_neg u (by omega)]; rfl⟩
    have hs : (mkT (Lib.decDigits u)).size ≤ 20 := dec_size (by omega)
    obtain ⟨x, hx⟩ : ∃ x, mkT (Lib.decDigits u) = x := ⟨_, rfl⟩
    rw [hx] at hd hs HN
    have HDC := Hd.mk hd
    have hw : IntKind.i64.wrap (- -(u : Int)) = (u : Int) := by rw [IntWalk.i64_in _ (by omega)]; omega
    have hw2 : IntKind.i64.wrap (u : Int) = (u : Int) := IntWalk.i64_in _ (by omega)
    clear hx hd
    go_enter Tryd.func39, Tryd.ntmps39
    go_wp2_with fail
    refine (HDC.out _).mono ?_
    rintro e w2 ⟨rfl, m, rfl⟩
    go_wp2
    go_ret
    exact ⟨by rw [← HN.out]; rfl, Post.mk' inferInstance inferInstance⟩
  · obtain ⟨u, rfl⟩ : ∃ u : Nat, n = (u : Int) := ⟨n.toNat, by omega⟩
    refine (spec_l1Num 64 u (by have : (9223372036854775807 : Nat) < 10 ^ 64 := by decide
                                omega) (by omega) w).mono ?_
    rintro e w2 ⟨rfl, m, rfl⟩
    exact ⟨by unfold numB; rw [Lib.itoa_nonneg], Post.mk' inferInstance inferInstance⟩
def ans_Format (n : Int) : ByteArray × Bool := if inB n (-999999) 999999 then (numB n, true) else (ByteArray.mk #[], false)
theorem ans_Format_no {n : Int} (h : inB n (-999999) 999999 = false) : ans_Format n = (ByteArray.mk #[], false) := by unfold ans_Format; rw [h]; rfl
theorem ans_Format_yes {n : Int} (h : inB n (-999999) 999999 = true) : ans_Format n = (numB n, true) := by unfold ans_Format; rw [if_pos h]
set_option maxRecDepth 100000 in
set_option maxHeartbeats 4000000 in
theorem impl_FormatInt (S : HP) (w : World) [H : SepI w S] [t : TabI S] (n : Int) :
    Calls Tryd.prog 12 #[.int .i64 n] w (StrOk S (ans_Format n) w) := by
  have hnot : ∀ (x : Bool) (w : World), (Op.unary .not (.bool x)).run Tryd.prog w = .ok (.bool (!x)) w := fun _ _ => rfl
  obtain ⟨q, hq⟩ : ∃ q, inB n (-999999) 999999 = q := ⟨_, rfl⟩
  have HQ := Hd.mk hq
  cases q
  · rw [ans_Format_no hq]
    clear hq
    go_enter Tryd.func12, Tryd.ntmps12
    go_wp2_with fail
    refine (impl_in n _ _ false _ HQ.out).mono ?_
    rintro e wz ⟨rfl, hz⟩
    have hz2 := hz.symm
    subst hz2
    clear hz
    go_wp2
    refine bodyPost_ret (v := .tuple #[.string ⟨#[]⟩, .bool false]) (by simp [results, Tryd.results12, go_sem]) rfl ?_
    exact ⟨rfl, Post.mk' inferInstance inferInstance⟩
  · rw [ans_Format_yes hq]
    have hb := inB_true hq
    clear hq
    go_enter Tryd.func12, Tryd.ntmps12
    go_wp2_with fail
    refine (impl_in n _ _ true _ HQ.out).mono ?_
    rintro e wz ⟨rfl, hz⟩
    have hz2 := hz.symm
    subst hz2
    clear hz
    go_wp2_with fail
    refine (impl_Itoa _ _ n (by omega) (by omega)).mono ?_
    rintro e w2 ⟨rfl, HP⟩
    have HS2 := HP.sep
    have HE2 := HP.ext
    clear HP
    go_wp2
    refine bodyPost_ret (v := .tuple #[.string (numB n), .bool true]) (by simp [results, Tryd.results12, go_sem]) rfl ?_
    exact ⟨rfl, Post.mk' inferInstance inferInstance⟩
set_option maxRecDepth 100000 in
set_option maxHeartbeats 4000000 in
theorem spec_FormatInt (S : HP) (w : World) [H : SepI w S] (n : Int) :
    Calls Tryd.prog 11 #[.int .i64 n] w (StrOk S (ans_Format n) w) := by
  have hnot : ∀ (x : Bool) (w : World), (Op.unary .not (.bool x)).run Tryd.prog w = .ok (.bool (!x)) w := fun _ _ => rfl
  obtain ⟨q, hq⟩ : ∃ q, inB n (-999999) 999999 = q := ⟨_, rfl⟩
  have HQ := Hd.mk hq
  cases q
  · rw [ans_Format_no hq]
    clear hq
    go_enter Tryd.func11, Tryd.ntmps11
    go_wp2_with fail
    refine (spec_in n _ _ false _ HQ.out).mono ?_
    rintro e wz ⟨rfl, hz⟩
    have hz2 := hz.symm
    subst hz2
    clear hz
    go_wp2
    refine bodyPost_ret (v := .tuple #[.string ⟨#[]⟩, .bool false]) (by simp [results, Tryd.results11, go_sem]) rfl ?_
    exact ⟨rfl, Post.mk' inferInstance inferInstance⟩
  · rw [ans_Format_yes hq]
    have hb := inB_true hq
    clear hq
    go_enter Tryd.func11, Tryd.ntmps11
    go_wp2_with fail
    refine (spec_in n _ _ true _ HQ.out).mono ?_
    rintro e wz ⟨rfl, hz⟩
    have hz2 := hz.symm
    subst hz2
    clear hz
    go_wp2_with fail
    refine (spec_l1NumA _ _ n (by omega) (by omega)).mono ?_
    rintro e w2 ⟨rfl, HP⟩
    have HS2 := HP.sep
    have HE2 := HP.ext
    clear HP
    go_wp2
    refine bodyPost_ret (v := .tuple #[.string (numB n), .bool true]) (by simp [results, Tryd.results11, go_sem]) rfl ?_
    exact ⟨rfl, Post.mk' inferInstance inferInstance⟩
set_option maxRecDepth 100000 in
set_option maxHeartbeats 4000000 in
theorem law_FormatInt (S : HP) (w : World) [H : SepI w S] [t : TabI S] (n : Int) :
    Calls Tryd.prog 3 #[.int .i64 n] w fun e w' => e = .returned (.bool true) ∧ Post w S w' := by
  obtain ⟨ans, hans⟩ : ∃ ans, ans_Format n = ans := ⟨_, rfl⟩
  have HANS := Hd.mk hans
  clear hans
  go_enter Tryd.func3, Tryd.ntmps3
  go_wp2_with fail
  refine (spec_FormatInt _ _ n).mono ?_
  rw [HANS.out]
  rintro e w1 ⟨rfl, HP⟩
  have HS1 := HP.sep
  have HE1 := HP.ext
  clear HP
  go_wp2_with fail
  refine (impl_FormatInt _ _ n).mono ?_
  rw [HANS.out]
  obtain ⟨av, ao⟩ := ans
  rintro e w2 ⟨rfl, HP⟩
  have HS2 := HP.sep
  have HE2 := HP.ext
  clear HP
  go_wp2
  go_ret
  exact ⟨rfl, Post.mk' inferInstance inferInstance⟩
end Go.Proofs.YtnioipbofopocaaDoor
