/- The law FnExactStackProgram returns true. No condition. -/
import Derived.Test.YtmallhlddilmcaaPh
namespace Go.Proofs.Ytmallhlddilmcaa
open Go.RowKit SL
attribute [local go_sem] cell_blk frozen_blk lt_blk cell_at frozen_row lt_row
set_option linter.unusedVariables false
set_option linter.unusedSimpArgs false

def stackL : List (List St) := [[⟨1, 3, -1⟩, ⟨5, 1, 0⟩, ⟨2, 0, 3⟩, ⟨11, 1, 0⟩], [⟨3, 0, 0⟩]]
theorem rowOf {e size g n : Nat} {cur : Array Value} {F : HP} {w : World} (H : SepI w (pts g (.cells cur e (0, 0)) * F)) (h2 : n ≤ maxLen) (h3 : cur.size = n * size) :
    SepI w (Row e size (.slice (some ⟨g, 0, none⟩) n n) n cur.toList * F) := by
  have h := Row.close (size := size) H (Nat.le_refl n) h2 h3
  rwa [← h3, ← Array.length_toList, List.take_length] at h

theorem stack_own {w : World} {S X : HP} {g1 g2 g3 : Nat}
    (H : SepI w (pts g3 (.cells #[.slice (some ⟨g1, 0, none⟩) 4 4, .slice (some ⟨g2, 0, none⟩) 1 1] 70 (0, 0)) * (pts g2 (.cells #[.int .i64 3, .int .i64 0, .int .i64 0] 55 (0, 0)) *
      (pts g1 (.cells #[.int .i64 1, .int .i64 3, .int .i64 (-1), .int .i64 5, .int .i64 1, .int .i64 0, .int .i64 2, .int .i64 0, .int .i64 3, .int .i64 11, .int .i64 1, .int .i64 0] 55 (0, 0)) * (X * S))))) :
    SepI w (OwnP (.slice (some ⟨g3, 0, none⟩) 2 2) [⟨some ⟨g1, 0, none⟩, 4, [⟨1, 3, -1⟩, ⟨5, 1, 0⟩, ⟨2, 0, 3⟩, ⟨11, 1, 0⟩]⟩, ⟨some ⟨g2, 0, none⟩, 1, [⟨3, 0, 0⟩]⟩] * S) := by
  have H1 := rowOf (size := 1) (n := 2) H (by decide) rfl
  have H2 := rowOf (size := 3) (n := 1) (SepI.cast H1 (star_left _ _ _)) (by decide) rfl
  rw [show ∀ A B C D : HP, A * (B * (C * D)) = C * (A * (B * D)) from fun A B C D => by ac_rfl] at H2
  have H3 := rowOf (size := 3) (n := 4) H2 (by decide) rfl
  rw [show ∀ A B C D E : HP, A * (B * (C * (D * E))) = D * (C * (A * (B * E))) from fun A B C D E => by ac_rfl] at H3
  refine SepI.cast (SepI.emp H3.right) ?_
  show emp * (Row 70 1 _ _ _ * (Row 55 3 _ _ _ * (Row 55 3 _ _ _ * S))) = Row 70 1 _ _ _ * (Row 55 3 _ _ _ * (Row 55 3 _ _ _ * emp)) * S
  ac_rfl

def StackPost (w : World) (S : HP) (e : Ending) (w' : World) : Prop := ∃ g bs, e = .returned (.agg #[.slice (some ⟨g, 0, none⟩) bs.length bs.length]) ∧ bs.map (·.l) = stackL ∧ Post w (OwnP (.slice (some ⟨g, 0, none⟩) bs.length bs.length) bs * S) w'

theorem impl_StackProgram (S : HP) (w : World) [H : SepI w S] : Calls Try.prog 20 #[] w (StackPost w S) := by
  go_enter Try.func20, Try.ntmps20
  go_wp2
  refine bodyPost_ret (v := .agg #[.slice (some ⟨w.heap.size + 3, 0, none⟩) 2 2]) (by simp [results, Try.results20, go_sem]) rfl ?_
  exact ⟨w.heap.size + 3, [⟨some ⟨w.heap.size + 1, 0, none⟩, 4, [⟨1, 3, -1⟩, ⟨5, 1, 0⟩, ⟨2, 0, 3⟩, ⟨11, 1, 0⟩]⟩, ⟨some ⟨w.heap.size + 2, 0, none⟩, 1, [⟨3, 0, 0⟩]⟩], rfl, rfl, Post.mk' (stack_own inferInstance) inferInstance⟩
theorem spec_StackProgram (S : HP) (w : World) [H : SepI w S] : Calls Try.prog 19 #[] w (StackPost w S) := by
  go_enter Try.func19, Try.ntmps19
  go_wp2
  refine bodyPost_ret (v := .agg #[.slice (some ⟨w.heap.size + 3, 0, none⟩) 2 2]) (by simp [results, Try.results19, go_sem]) rfl ?_
  exact ⟨w.heap.size + 3, [⟨some ⟨w.heap.size + 1, 0, none⟩, 4, [⟨1, 3, -1⟩, ⟨5, 1, 0⟩, ⟨2, 0, 3⟩, ⟨11, 1, 0⟩]⟩, ⟨some ⟨w.heap.size + 2, 0, none⟩, 1, [⟨3, 0, 0⟩]⟩], rfl, rfl, Post.mk' (stack_own inferInstance) inferInstance⟩
theorem stack_small {bs : List Bd} (h : bs.map (·.l) = stackL) : bs.length ≤ 1048576 ∧ ∀ x ∈ bs, x.l.length ≤ 1048576 := by
  have hl : bs.length = 2 := by simpa [stackL] using congrArg List.length h
  refine ⟨by omega, fun x hx => ?_⟩
  have : x.l ∈ stackL := by rw [← h]; exact List.mem_map.2 ⟨x, hx, rfl⟩
  simp only [stackL, List.mem_cons, List.not_mem_nil, or_false] at this
  rcases this with h | h <;> rw [h] <;> decide

set_option maxRecDepth 100000 in
set_option maxHeartbeats 4000000 in
theorem law_StackProgram (S : HP) (w : World) (H : SepI w S) : Calls Try.prog 6 #[] w fun e w' => e = .returned (.bool true) ∧ Post w S w' := by
  go_enter Try.func6, Try.ntmps6
  go_wp2_with fail
  refine (spec_StackProgram _ _).mono ?_
  rintro e w1 ⟨g1, bs1, rfl, hl1, HQ⟩
  have HS1 := HQ.sep
  have HE1 := HQ.ext
  have hs1 := stack_small hl1
  have iB1 : ∀ F, Bodies (OwnP (.slice (some ⟨g1, 0, none⟩) bs1.length bs1.length) bs1 * F) bs1 := fun F => Bodies.of_OwnP F hs1.2 hs1.1
  have HL1 := Hd.mk hl1
  clear HQ hl1 hs1
  go_wp2_with fail
  refine (impl_StackProgram _ _).mono ?_
  rintro e w2 ⟨g2, bs2, rfl, hl2, HQ⟩
  have HS2 := HQ.sep
  have HE2 := HQ.ext
  have hs2 := stack_small hl2
  have iB2 : ∀ F, Bodies (OwnP (.slice (some ⟨g2, 0, none⟩) bs2.length bs2.length) bs2 * F) bs2 := fun F => Bodies.of_OwnP F hs2.2 hs2.1
  have HL2 := Hd.mk hl2
  have HM2 := Hd.mk hs2
  clear HQ hl2 hs2
  go_wp2_with fail
  refine (eqProgram _ _ _ _ _ _ bs2 bs1).mono ?_
  rintro e w3 ⟨rfl, HQ⟩
  have HS3 := HQ.sep
  have HE3 := HQ.ext
  clear HQ
  rw [decide_eq_true (HL2.out.trans HL1.out.symm)]
  go_wp2_with fail
  refine (markProgramx _ _ _ _ _ bs2 HM2.out.2 HM2.out.1).mono ?_
  rintro e w4 ⟨rfl, HQ⟩
  have HS4 := HQ.sep
  have HE4 := HQ.ext
  clear HQ
  have q0 := mkQ_nonneg bs2 1 (by omega)
  have iR : ∀ F, Rd (OwnP (.slice (some ⟨g2, 0, none⟩) bs2.length bs2.length) (mkBds 1 bs2) * F) (some ⟨g2, 0, none⟩) (cBds bs2) := fun F => by rw [← mkBds_cells bs2 1]; infer_instance
  have iM : ∀ F, Bodies (OwnP (.slice (some ⟨g2, 0, none⟩) bs2.length bs2.length) (mkBds 1 bs2) * F) (mkBds 1 bs2) := fun F => Bodies.of_OwnP F (mkBds_small HM2.out.2 1) (by rw [mkBds_len]; exact HM2.out.1)
  go_wp2_with fail
  refine (heldProgram _ _ _ _ bs2 HM2.out.2 HM2.out.1).mono ?_
  rintro e w5 ⟨rfl, HQ⟩
  have HS5 := HQ.sep
  have HE5 := HQ.ext
  clear HQ
  go_wp2_with fail
  refine (impl_StackProgram _ _).mono ?_
  rintro e w6 ⟨g6, bs6, rfl, hl6, HQ⟩
  have HS6 := HQ.sep
  have HE6 := HQ.ext
  have hs6 := stack_small hl6
  have iB6 : ∀ F, Bodies (OwnP (.slice (some ⟨g6, 0, none⟩) bs6.length bs6.length) bs6 * F) bs6 := fun F => Bodies.of_OwnP F hs6.2 hs6.1
  have HL6 := Hd.mk hl6
  clear HQ hl6 hs6
  go_wp2_with fail
  refine (eqProgram _ _ _ _ _ _ bs6 bs1).mono ?_
  rintro e w7 ⟨rfl, HQ⟩
  have HS7 := HQ.sep
  have HE7 := HQ.ext
  clear HQ
  rw [decide_eq_true (HL6.out.trans HL1.out.symm)]
  go_wp2_with fail
  refine (heldProgram _ _ _ _ bs2 HM2.out.2 HM2.out.1).mono ?_
  rintro e w8 ⟨rfl, HQ⟩
  have HS8 := HQ.sep
  have HE8 := HQ.ext
  clear HQ
  go_wp2
  go_ret
  exact ⟨rfl, Post.mk' (Ent.sep (S := _) inferInstance inferInstance) inferInstance⟩
end Go.Proofs.Ytmallhlddilmcaa
