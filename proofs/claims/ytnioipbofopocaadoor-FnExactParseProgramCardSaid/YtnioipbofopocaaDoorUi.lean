/- The law FnExactParseProgram. Conditions: the tables, the sentinels and the cell of the greatest length read as they are laid; lengths within bounds. -/
import Derived.Test.YtnioipbofopocaaDoorUh
import Derived.Test.YtnioipbofopocaaDoorPh
namespace Go.Proofs.YtnioipbofopocaaDoor
open Go.RowKit SL
attribute [local go_sem] cell_blk frozen_blk lt_blk cell_at frozen_row lt_row
set_option linter.unusedVariables false
set_option linter.unusedSimpArgs false

theorem ans_Prog_small (s : ByteArray) : (ans_Prog s).1.length ≤ 1048576 ∧ ∀ l ∈ (ans_Prog s).1, l.length ≤ 1048576 := by
  have key : ∀ a : List (List St) × Bool, (a = ([], false) ∨ (progB a.1 = true)) → a.1.length ≤ 1048576 ∧ ∀ l ∈ a.1, l.length ≤ 1048576 := by
    rintro a (rfl | h)
    · exact ⟨Nat.zero_le _, fun l hl => by cases hl⟩
    · obtain ⟨h1, h2⟩ := prog_facts h
      exact ⟨by omega, fun l hl => by have := (h2 l hl).1; omega⟩
  apply key
  unfold ans_Prog
  split
  · split
    · exact .inr (by assumption)
    · exact .inl rfl
  · exact .inl rfl
theorem small_bs {bs : List Bd} {L : List (List St)} (h : bs.map (·.l) = L) (hs : L.length ≤ 1048576 ∧ ∀ l ∈ L, l.length ≤ 1048576) : bs.length ≤ 1048576 ∧ ∀ x ∈ bs, x.l.length ≤ 1048576 := by
  subst h
  rw [List.length_map] at hs
  exact ⟨hs.1, fun x hx => hs.2 _ (List.mem_map.2 ⟨x, hx, rfl⟩)⟩
set_option maxRecDepth 100000 in
set_option maxHeartbeats 4000000 in
theorem law_ParseProgram (S : HP) (w : World) [H : SepI w S] [t : TabI S] [x : ErrI S] [n : LenI S] (s : ByteArray) (hs0 : s.size ≤ 140737488351232) :
    Calls Tryd.prog 9 #[.string s] w fun e w' => e = .returned (.bool true) ∧ Post w S w' := by
  have hnot : ∀ (x : Bool) (w : World), (Op.unary .not (.bool x)).run Tryd.prog w = .ok (.bool (!x)) w := fun _ _ => rfl
  by_cases hb : s.size ≤ 1048576
  · have hbi : ¬ (1048576 : Int) < (s.size : Int) := by omega
    have HSM := Hd.mk (ans_Prog_small s)
    obtain ⟨⟨av, ao⟩, hans⟩ : ∃ ans, ans_Prog s = ans := ⟨_, rfl⟩
    have HANS := Hd.mk hans
    rw [hans] at HSM
    clear hans
    go_enter Tryd.func9, Tryd.ntmps9
    go_wp2_with fail
    refine (spec_ParseProgram _ _ s hb).mono ?_
    rw [HANS.out]
    rintro e w1 ⟨A1, c1, bs1, rfl, HL1, HP⟩
    have HS1 := HP.sep
    have HE1 := HP.ext
    clear HP
    have hs1 := small_bs HL1.out HSM.out
    have iB1 : ∀ F, Bodies (OwnP (.slice A1 bs1.length c1) bs1 * F) bs1 := fun F => Bodies.of_OwnP F hs1.2 hs1.1
    have HM1 := Hd.mk hs1
    clear hs1
    go_wp2_with fail
    refine (impl_ParseProgram _ _ s hb).mono ?_
    rw [HANS.out]
    rintro e w2 ⟨A2, c2, bs2, rfl, HL2, HP⟩
    have HS2 := HP.sep
    have HE2 := HP.ext
    clear HP
    have hs2 := small_bs HL2.out HSM.out
    have iB2 : ∀ F, Bodies (OwnP (.slice A2 bs2.length c2) bs2 * F) bs2 := fun F => Bodies.of_OwnP F hs2.2 hs2.1
    have HM2 := Hd.mk hs2
    clear hs2
    go_wp2_with fail
    refine (eqProgram _ _ _ _ _ _ bs2 bs1).mono ?_
    rintro e w3 ⟨rfl, HP⟩
    have HS3 := HP.sep
    have HE3 := HP.ext
    clear HP
    rw [decide_eq_true (HL2.out.trans HL1.out.symm)]
    go_wp2_with fail
    refine (markProgramx _ _ _ _ _ bs2 HM2.out.2 HM2.out.1).mono ?_
    rintro e w4 ⟨rfl, HP⟩
    have HS4 := HP.sep
    have HE4 := HP.ext
    clear HP
    have q0 := mkQ_nonneg bs2 1 (by omega)
    have iR : ∀ F, Rd (OwnP (.slice A2 bs2.length c2) (mkBds 1 bs2) * F) A2 (cBds bs2) := fun F => by rw [← mkBds_cells bs2 1]; infer_instance
    have iM : ∀ F, Bodies (OwnP (.slice A2 bs2.length c2) (mkBds 1 bs2) * F) (mkBds 1 bs2) := fun F => Bodies.of_OwnP F (mkBds_small HM2.out.2 1) (by rw [mkBds_len]; exact HM2.out.1)
    go_wp2_with fail
    refine (heldProgram _ _ _ _ bs2 HM2.out.2 HM2.out.1).mono ?_
    rintro e w5 ⟨rfl, HP⟩
    have HS5 := HP.sep
    have HE5 := HP.ext
    clear HP
    go_wp2_with fail
    refine (impl_ParseProgram _ _ s hb).mono ?_
    rw [HANS.out]
    rintro e w6 ⟨A6, c6, bs6, rfl, HL6, HP⟩
    have HS6 := HP.sep
    have HE6 := HP.ext
    clear HP
    have hs6 := small_bs HL6.out HSM.out
    have iB6 : ∀ F, Bodies (OwnP (.slice A6 bs6.length c6) bs6 * F) bs6 := fun F => Bodies.of_OwnP F hs6.2 hs6.1
    have HM6 := Hd.mk hs6
    clear hs6
    go_wp2_with fail
    refine (eqProgram _ _ _ _ _ _ bs6 bs1).mono ?_
    rintro e w7 ⟨rfl, HP⟩
    have HS7 := HP.sep
    have HE7 := HP.ext
    clear HP
    rw [decide_eq_true (HL6.out.trans HL1.out.symm)]
    go_wp2_with fail
    refine (heldProgram _ _ _ _ bs2 HM2.out.2 HM2.out.1).mono ?_
    rintro e w8 ⟨rfl, HP⟩
    have HS8 := HP.sep
    have HE8 := HP.ext
    clear HP
    go_wp2
    go_ret
    exact ⟨rfl, Post.mk' (Ent.sep (S := _) inferInstance inferInstance) inferInstance⟩
  · have hbi : (1048576 : Int) < (s.size : Int) := by omega
    clear hb
    go_enter Tryd.func9, Tryd.ntmps9
    go_wp2
    go_ret
    exact ⟨rfl, Post.mk' inferInstance inferInstance⟩
end Go.Proofs.YtnioipbofopocaaDoor
