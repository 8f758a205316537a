/- For all strings s, the law FnExactChecksum returns true: the program's Checksum answers what the reference's does. No condition beyond the row's own. -/
import Derived.Test.YtmallhlddilmcaaPFnExactChecksumx1
namespace Go.Proofs.Ytmallhlddilmcaa.Pure
open Go.RowKit Go.Proofs.Ytmallhlddilmcaa.PFnExactChecksum Go.Proofs.YtmallhlddilmcaaW.PrintWords Go.Proofs.YtmallhlddilmcaaW.PrintLast

theorem loops_agree (s : ByteArray) (hn : s.size ≤ 4000) (d : Nat) : ∀ (k : Nat) (h i : Int), 0 ≤ i → (s.size : Int) - i = d → d < k →
    ∃ r, spec_l1Sum.l0 k s h i = some r ∧ impl_Checksum.l0 k s h (s.size : Int) i = some (r, true) := by
  induction d with
  | zero =>
    intro k h i h0 hd hk
    obtain ⟨k, rfl⟩ : ∃ m, k = m + 1 := ⟨k - 1, by omega⟩
    refine ⟨h, ?_, ?_⟩
    · simp only [spec_l1Sum.l0]; rw [if_neg (by omega)]
    · simp only [impl_Checksum.l0]; rw [if_neg (by omega)]
  | succ d ih =>
    intro k h i h0 hd hk
    obtain ⟨k, rfl⟩ : ∃ m, k = m + 1 := ⟨k - 1, by omega⟩
    have hlt : i < (s.size : Int) := by omega
    have hw : wrap64 (i + 1) = i + 1 := by unfold wrap64; omega
    obtain ⟨r, h1, h2⟩ := ih k (Int.tmod (wrap64 ((wrap64 ((wrap64 (41 * h)) + (wrap64 (bt s i)))) + 1)) 999979) (i + 1) (by omega) (by omega) (by omega)
    refine ⟨r, ?_, ?_⟩
    · simp only [spec_l1Sum.l0]; rw [if_pos hlt, if_pos h0, hw]; exact h1
    · simp only [impl_Checksum.l0]; rw [if_pos hlt, if_pos h0, if_pos hlt, hw]; exact h2

theorem FnExactChecksum : laws_FnExactChecksum.Pure := by
  intro s _
  by_cases h1 : (s.size : Int) > 1048576
  · exact ⟨0, by unfold laws_FnExactChecksum.f; rw [if_pos h1]⟩
  by_cases h2 : (s.size : Int) > 4000
  · refine ⟨0, ?_⟩
    unfold laws_FnExactChecksum.f spec_Checksum.f impl_Checksum.f
    rw [if_neg h1, if_pos h2, if_pos h2]; simp
  · obtain ⟨r, g1, g2⟩ := loops_agree s (by omega) s.size (s.size + 1) 7 0 (by omega) (by omega) (by omega)
    refine ⟨s.size + 1, ?_⟩
    unfold laws_FnExactChecksum.f spec_Checksum.f impl_Checksum.f spec_l1Sum.f
    rw [if_neg h1, if_neg h2, if_neg h2, g1, g2]; simp

end Go.Proofs.Ytmallhlddilmcaa.Pure
