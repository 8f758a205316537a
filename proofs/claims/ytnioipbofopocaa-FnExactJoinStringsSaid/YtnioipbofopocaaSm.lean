/- The law FnExactJoinStrings returns true at every argument that is read. Conditions: lengths within the model's bound. -/
import Derived.Test.YtnioipbofopocaaSk
namespace Go.Proofs.Ytnioipbofopocaa
open Go.RowKit SL
attribute [local go_sem] cell_blk frozen_blk lt_blk cell_at frozen_row lt_row
set_option linter.unusedVariables false
set_option linter.unusedSimpArgs false

/-- What is known of strings that came in. -/
structure ArgT (S : HP) (A : Option Addr) (l : List ByteArray) : Prop where
  rd : Rd S A (strs l)
  max : l.length ≤ maxLen
  sm : SmS l
set_option maxRecDepth 100000 in
set_option maxHeartbeats 4000000 in
theorem law_JoinStrings (S : HP) (w : World) [H : SepI w S] (A : Option Addr) (c : Nat) (l : List ByteArray) (a0 : ArgT S A l) (sep : ByteArray) (hsep : sep.size ≤ maxLen) :
    Calls Try.prog 3 #[.slice A l.length c, .string sep] w fun e w' => e = .returned (.bool true) ∧ Post w S w' := by
  have r := a0.rd
  have HA := Hd.mk a0
  clear a0
  have hnot : ∀ (x : Bool) (w : World), (Op.unary .not (.bool x)).run Try.prog w = .ok (.bool (!x)) w := fun _ _ => rfl
  unfold maxLen at hsep
  by_cases hbig : 1048576 < sep.size
  · have hb2 : (1048576 : Int) < (sep.size : Int) := by omega
    go_enter Try.func3, Try.ntmps3
    go_wp2
    go_ret
    exact ⟨rfl, Post.mk' inferInstance inferInstance⟩
  · have hb2 : ¬ (1048576 : Int) < (sep.size : Int) := by omega
    have hsp : sep.size ≤ 1048576 := by omega
    go_enter Try.func3, Try.ntmps3
    go_wp2_with fail
    refine (szStringS S _ A c l HA.out.max HA.out.sm 1048576 (by omega) (by omega)).mono ?_
    rintro e w1 ⟨q, rfl, hz, hq⟩
    have hz2 := hz.symm
    subst hz2
    clear hz
    rcases hq with hq | ⟨hq, hbn⟩
    · go_wp2
      go_ret
      exact ⟨rfl, Post.mk' inferInstance inferInstance⟩
    have hn : l.length ≤ 1048576 := by omega
    have hb : bytesN l ≤ 1048576 := by omega
    clear hbn
    obtain ⟨ans, hans⟩ : ∃ ans, ans_Join l sep = ans := ⟨_, rfl⟩
    have HANS := Hd.mk hans
    clear hans
    go_wp2_with fail
    refine (toStringS _ _ A c l hn).mono ?_
    rintro e w1 ⟨g1, rfl, HP⟩
    have HS1 := HP.sep
    have HE1 := HP.ext
    clear HP
    go_wp2_with fail
    refine (spec_JoinStrings _ _ (some ⟨g1, 0, none⟩) l.length l hn hb sep hsp).mono ?_
    rw [HANS.out]
    rintro e w2 ⟨rfl, HP⟩
    have HS2 := HP.sep
    have HE2 := HP.ext
    clear HP
    go_wp2_with fail
    refine (toStringS _ _ A c l hn).mono ?_
    rintro e w3 ⟨g3, rfl, HP⟩
    have HS3 := HP.sep
    have HE3 := HP.ext
    clear HP
    go_wp2_with fail
    refine (impl_JoinStrings _ _ (some ⟨g3, 0, none⟩) l.length l (Nat.le_refl _) hn hb sep hsp).mono ?_
    rw [HANS.out]
    obtain ⟨av, ao⟩ := ans
    rintro e w4 ⟨rfl, HP⟩
    have HS4 := HP.sep
    have HE4 := HP.ext
    clear HP
    go_wp2_with fail
    refine (toStringS _ _ A c l hn).mono ?_
    rintro e w5 ⟨g5, rfl, HP⟩
    have HS5 := HP.sep
    have HE5 := HP.ext
    clear HP
    go_wp2_with fail
    refine (eqStringS _ _ (some ⟨g3, 0, none⟩) (some ⟨g5, 0, none⟩) l.length l.length l HA.out.max).mono ?_
    rintro e w6 ⟨rfl, HP⟩
    have HS6 := HP.sep
    have HE6 := HP.ext
    clear HP
    go_wp2
    go_ret
    exact ⟨rfl, Post.mk' (Ent.sep (S := _) inferInstance inferInstance) inferInstance⟩
end Go.Proofs.Ytnioipbofopocaa
