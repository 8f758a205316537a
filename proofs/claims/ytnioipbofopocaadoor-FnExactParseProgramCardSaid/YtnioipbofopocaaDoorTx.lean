/- SplitString by the program and by the reference. Conditions: lengths within bounds; the cell of the greatest length reads as it is laid. -/
import Derived.Test.YtnioipbofopocaaDoorTw
namespace Go.Proofs.YtnioipbofopocaaDoor
open Go.RowKit SL
attribute [local go_sem] cell_blk frozen_blk lt_blk cell_at frozen_row lt_row
set_option linter.unusedVariables false
set_option linter.unusedSimpArgs false

/-- What the first cell holds: an int. -/
class LenI (S : HP) : Prop where
  out : ∀ w, SepI w S → ∃ m, w.cell? ⟨0, 0, none⟩ = some (.int .i64 m)
def ans_Spl (s sep : ByteArray) : List ByteArray × Bool := if s.size ≤ 4000 ∧ sep.size = 1 then (splT s (sep.data.toList.headD 0), true) else ([], false)
theorem ans_Spl_no {s sep : ByteArray} (h : ¬ (s.size ≤ 4000 ∧ sep.size = 1)) : ans_Spl s sep = ([], false) := by unfold ans_Spl; rw [if_neg h]
theorem ans_Spl_yes {s : ByteArray} (b : UInt8) (h : s.size ≤ 4000) : ans_Spl s ⟨#[b]⟩ = (splT s b, true) := by unfold ans_Spl; rw [if_pos ⟨h, rfl⟩]; rfl
theorem one_byte {s : ByteArray} (h : s.size = 1) : ∃ b, s = ⟨#[b]⟩ := by
  obtain ⟨⟨l⟩⟩ := s
  match l, h with
  | [b], _ => exact ⟨b, rfl⟩
def StrsOk (S : HP) (a : List ByteArray × Bool) (w : World) (e : Ending) (w' : World) : Prop := ∃ A c, e = .returned (.tuple #[.slice A a.1.length c, .bool a.2]) ∧ Post w (Row 9 1 (.slice A a.1.length c) a.1.length (strs a.1) * S) w'
theorem split_post (S : HP) (w : World) [H : SepI w S] [t : LenI S] (s : ByteArray) (b : UInt8) (hs : s.size ≤ 1048576) :
    Calls Tryd.prog 43 #[.string s, .string ⟨#[b]⟩] w (StrsP S (splT s b) w) := by
  obtain ⟨m, hm⟩ := t.out w H
  obtain ⟨e1, e2⟩ := split_same b s.size s (Nat.le_refl _)
  have hcl : (splT s b).length ≤ maxLen := by
    rw [e2]
    have := Lib.countB_le ⟨#[b]⟩ (Nat.le_refl 1) s.size s (Nat.le_refl _)
    unfold maxLen
    omega
  refine (Tryd.strings_Split s ⟨#[b]⟩ m w (by omega) hm (Nat.le_refl 1)).mono ?_
  rintro e w' ⟨rfl, rfl⟩
  rw [e1, ← e2]
  refine ⟨w.heap.size, (splT s b).length, rfl, Nat.le_refl _, ?_⟩
  have H2 : SepI (w.alloc (.cells (strs (splT s b)).toArray 9)) (pts w.heap.size (.cells (strs (splT s b)).toArray 9 (0, 0)) * S) := inferInstance
  have H3 := Row.close (size := 1) (n := (splT s b).length) (cap := (splT s b).length) H2 (Nat.le_refl _) hcl (by simp [strs_len])
  have e : List.take ((splT s b).length * 1) (strs (splT s b)).toArray.toList = strs (splT s b) := by rw [Nat.mul_one]; exact List.take_of_length_le (by rw [← strs_len]; exact Nat.le_refl _)
  rw [e] at H3
  exact Post.mk' H3 inferInstance
set_option maxRecDepth 100000 in
set_option maxHeartbeats 4000000 in
theorem impl_SplitString (S : HP) (w : World) [H : SepI w S] [t : LenI S] (s sep : ByteArray) (hs : s.size ≤ 1048576) (hp : sep.size ≤ 1048576) :
    Calls Tryd.prog 14 #[.string s, .string sep] w (StrsOk S (ans_Spl s sep) w) := by
  by_cases hb : s.size ≤ 4000
  · have hbi : ¬ (4000 : Int) < (s.size : Int) := by omega
    by_cases h1 : sep.size = 1
    · obtain ⟨b, rfl⟩ := one_byte h1
      have HOK := Hd.mk (ans_Spl_yes b hb)
      obtain ⟨l, hl⟩ : ∃ l, splT s b = l := ⟨_, rfl⟩
      have HSP : Hd (∀ w, SepI w S → Calls Tryd.prog 43 #[.string s, .string ⟨#[b]⟩] w (StrsP S l w)) := ⟨fun w H => by
        have h := split_post S w s b hs
        rw [hl] at h
        exact h⟩
      rw [hl] at HOK
      rw [HOK.out]
      clear hl h1
      go_enter Tryd.func14, Tryd.ntmps14
      go_wp2_with fail
      refine (HSP.out _ inferInstance).mono ?_
      rintro e w1 ⟨g, c, rfl, hc, HP⟩
      have HS1 := HP.sep
      have HE1 := HP.ext
      clear HP
      go_wp2
      refine bodyPost_ret (v := .tuple #[.slice (some ⟨g, 0, none⟩) l.length c, .bool true]) (by simp [results, Tryd.results14, go_sem]) rfl ?_
      exact ⟨_, _, rfl, Post.mk' HS1 inferInstance⟩
    · have HOK := Hd.mk (ans_Spl_no (s := s) (sep := sep) (fun h => h1 h.2))
      have h1i : ((sep.size : Int) == 1) = false := by rw [beq_eq_false_iff_ne]; omega
      rw [HOK.out]
      go_enter Tryd.func14, Tryd.ntmps14
      go_wp2
      refine bodyPost_ret (v := .tuple #[.slice none 0 0, .bool false]) (by simp [results, Tryd.results14, go_sem]) rfl ?_
      exact ⟨_, _, rfl, Post.mk' (SL.Row.nil0 inferInstance _ _) inferInstance⟩
  · have HOK := Hd.mk (ans_Spl_no (s := s) (sep := sep) (fun h => hb h.1))
    have hbi : (4000 : Int) < (s.size : Int) := by omega
    rw [HOK.out]
    go_enter Tryd.func14, Tryd.ntmps14
    go_wp2
    refine bodyPost_ret (v := .tuple #[.slice none 0 0, .bool false]) (by simp [results, Tryd.results14, go_sem]) rfl ?_
    exact ⟨_, _, rfl, Post.mk' (SL.Row.nil0 inferInstance _ _) inferInstance⟩
set_option maxRecDepth 100000 in
set_option maxHeartbeats 4000000 in
theorem spec_SplitString (S : HP) (w : World) [H : SepI w S] (s sep : ByteArray) (hs : s.size ≤ 1048576) (hp : sep.size ≤ 1048576) :
    Calls Tryd.prog 13 #[.string s, .string sep] w (StrsOk S (ans_Spl s sep) w) := by
  by_cases h1 : sep.size = 1
  · obtain ⟨b, rfl⟩ := one_byte h1
    clear h1
    by_cases hb : s.size ≤ 4000
    · have hbi : ¬ (4000 : Int) < (s.size : Int) := by omega
      have HOK := Hd.mk (ans_Spl_yes b hb)
      obtain ⟨l, hl⟩ : ∃ l, splT s b = l := ⟨_, rfl⟩
      have HSP : Hd (∀ w, SepI w S → Calls Tryd.prog 42 #[.string s, .int .u8 b.toNat] w (StrsP S l w)) := ⟨fun w H => by
        have h := spec_l1Split S w s b hs
        rw [hl] at h
        exact h⟩
      have hz : (⟨#[b]⟩ : ByteArray).size = 1 := rfl
      have hz0 : (⟨#[b]⟩ : ByteArray)[0]'(by rw [hz]; exact Nat.one_pos) = b := rfl
      rw [hl] at HOK
      rw [HOK.out]
      clear hl
      go_enter Tryd.func13, Tryd.ntmps13
      go_wp2_with fail
      refine (HSP.out _ inferInstance).mono ?_
      rintro e w1 ⟨g, c, rfl, hc, HP⟩
      have HS1 := HP.sep
      have HE1 := HP.ext
      clear HP
      go_wp2
      refine bodyPost_ret (v := .tuple #[.slice (some ⟨g, 0, none⟩) l.length c, .bool true]) (by simp [results, Tryd.results13, go_sem]) rfl ?_
      exact ⟨_, _, rfl, Post.mk' HS1 inferInstance⟩
    · have HOK := Hd.mk (ans_Spl_no (s := s) (sep := ⟨#[b]⟩) (fun h => hb h.1))
      have hbi : (4000 : Int) < (s.size : Int) := by omega
      have hz : (⟨#[b]⟩ : ByteArray).size = 1 := rfl
      rw [HOK.out]
      go_enter Tryd.func13, Tryd.ntmps13
      go_wp2
      refine bodyPost_ret (v := .tuple #[.slice (some ⟨w.heap.size, 0, none⟩) 0 0, .bool false]) (by simp [results, Tryd.results13, go_sem]) rfl ?_
      exact ⟨_, _, rfl, Post.mk' (Go.Proofs.YtnioipbofopocaaDoor.Row.nil0 inferInstance) inferInstance⟩
  · have HOK := Hd.mk (ans_Spl_no (s := s) (sep := sep) (fun h => h1 h.2))
    have h1i : ((sep.size : Int) == 1) = false := by rw [beq_eq_false_iff_ne]; omega
    rw [HOK.out]
    go_enter Tryd.func13, Tryd.ntmps13
    go_wp2
    refine bodyPost_ret (v := .tuple #[.slice (some ⟨w.heap.size, 0, none⟩) 0 0, .bool false]) (by simp [results, Tryd.results13, go_sem]) rfl ?_
    exact ⟨_, _, rfl, Post.mk' (Go.Proofs.YtnioipbofopocaaDoor.Row.nil0 inferInstance) inferInstance⟩
end Go.Proofs.YtnioipbofopocaaDoor
