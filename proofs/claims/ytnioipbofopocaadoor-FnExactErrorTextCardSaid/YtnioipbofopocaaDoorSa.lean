/- Strings: the reference's look for a byte. Conditions: none beyond the length's own bound. -/
import Derived.Test.YtnioipbofopocaaDoorProg
import Derived.Test.YtnioipbofopocaaDoorSlr
import Derived.Lib.IndexAny
namespace Go.Proofs.YtnioipbofopocaaDoor
open Go.RowKit SL
attribute [local go_sem] cell_blk frozen_blk lt_blk cell_at frozen_row lt_row
set_option linter.unusedVariables false
set_option linter.unusedSimpArgs false
theorem byte_at {s : ByteArray} {i : Nat} {c : UInt8} (h : s.data.toList[i]? = some c) : ∃ hi : i < s.size, s[i]'hi = c := by
  obtain ⟨hi, e⟩ := List.getElem?_eq_some_iff.1 h
  have hl : i < s.size := by simpa using hi
  exact ⟨hl, by rw [← e]; simp [ByteArray.getElem_eq_getElem_data]⟩
theorem data_len (s : ByteArray) : s.data.toList.length = s.size := by simp
theorem u8_beq (a b : UInt8) : ((a.toNat : Int) == (b.toNat : Int)) = (a == b) := by
  by_cases h : a = b
  · subst h; simp
  · rw [beq_eq_false_iff_ne.2 h, beq_eq_false_iff_ne]
    intro e
    exact h (UInt8.toNat_inj.1 (by omega))
set_option maxHeartbeats 1000000 in
theorem spec_l1Stands (s : ByteArray) (b : UInt8) (w : World) (hs : s.size ≤ maxLen) (v : Bool) (hv : s.data.toList.contains b = v) :
    Calls Tryd.prog 45 #[.string s, .int .u8 b.toNat] w fun e w' => e = .returned (.bool v) ∧ w' = w := by
  unfold maxLen at hs
  have HV := Hd.mk hv
  obtain ⟨m, hm⟩ : ∃ m, s.size = m := ⟨_, rfl⟩
  have HM := Hd.mk hm
  have hs' : m ≤ 9223372036854775807 := by omega
  clear hv hs
  go_enter Tryd.func45, Tryd.ntmps45
  go_wp2
  go_loopw [5] (fun v5 wr => ∃ i : Nat, i ≤ m ∧ v5 = .int .i64 i ∧ wr = w ∧ Hd ((s.data.toList.take i).contains b = false)) (fun v _ => m - (intOf v).toNat)
  case atStart => exact ⟨0, Nat.zero_le _, rfl, by first | trivial | rfl, ⟨rfl⟩⟩
  case round =>
    obtain ⟨i, hi, rfl, rfl, HT⟩ := hrel
    by_cases hlt : i < m
    · obtain ⟨c, hc⟩ := get_ex (xs := s.data.toList) (k := i) (by rw [data_len, HM.out]; exact hlt)
      obtain ⟨hil, hix⟩ := byte_at hc
      have HC := Hd.mk hc
      have hub := u8_beq c b
      obtain ⟨q, hq⟩ : ∃ q, (c == b) = q := ⟨_, rfl⟩
      rw [hq] at hub
      have HQ := Hd.mk hq
      clear hc hq
      cases q
      · go_wp2
        go_roundw
        case rel => exact ⟨i + 1, by omega, by go_num, by first | trivial | rfl, ⟨by
          rw [take_succ_eq HC.out]
          have h1 := HT.out
          have h2 := beq_eq_false_iff_ne.1 HQ.out
          simp only [List.contains_eq_any_beq, List.any_append, List.any_cons, List.any_nil, Bool.or_false] at h1 ⊢
          rw [h1, Bool.false_or]
          exact beq_eq_false_iff_ne.2 (fun e => h2 e.symm)⟩⟩
        case measure => (simp [intOf]; try omega)
      · go_wp2
        go_ret
        have : v = true := by
          rw [← HV.out, List.contains_iff_mem, ← eq_of_beq HQ.out]
          exact List.mem_of_getElem? HC.out
        exact ⟨by rw [this]; rfl, rfl⟩
    · have : i = m := by omega
      subst this
      go_wp2
      go_ret
      have : v = false := by
        have h1 := HT.out
        rw [List.take_of_length_le (by rw [data_len, HM.out]; omega)] at h1
        rw [← HV.out, h1]
      exact ⟨by rw [this]; rfl, rfl⟩
end Go.Proofs.YtnioipbofopocaaDoor
