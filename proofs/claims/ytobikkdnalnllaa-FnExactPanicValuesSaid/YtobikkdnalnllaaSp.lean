/- The program's ascending: slices.Sort and slices.Compact by the shelf's contracts, over rows of ints of their own. Conditions: lengths within bounds. -/
import Derived.Test.YtobikkdnalnllaaSh
import Derived.Test.YtobikkdnalnllaaDl
import Derived.Test.YtobikkdnalnllaaFr
import Derived.Lib.SortBridge
import Derived.Lib.SlicesCompact
namespace Go.Proofs.Ytobikkdnalnllaa
open Go.RowKit SL
attribute [local go_sem] cell_blk frozen_blk lt_blk cell_at frozen_row lt_row
set_option linter.unusedVariables false
set_option linter.unusedSimpArgs false

theorem compUp {d : Array Int} (hs : ∀ i j, i < j → j < d.size → d[i]! ≤ d[j]!) : ∀ m, m ≤ d.size →
    Rises (Lib.compactUpTo d m) ∧ (∀ x ∈ Lib.compactUpTo d m, 0 < m ∧ x ≤ d[m - 1]!) ∧ ∀ x, x ∈ Lib.compactUpTo d m ↔ ∃ j, j < m ∧ d[j]! = x
  | 0, _ => ⟨by simp [Lib.compactUpTo, Rises], fun x hx => by simp [Lib.compactUpTo] at hx, fun x => by simp [Lib.compactUpTo]⟩
  | m + 1, h => by
    obtain ⟨h1, h2, h3⟩ := compUp hs m (by omega)
    rw [Lib.compactUpTo_succ]
    by_cases hm : m = 0
    · subst hm
      have e : Lib.compactUpTo d 0 = [] := rfl
      rw [Lib.keeps_lt_one d 0 (by omega), if_pos rfl, e, List.nil_append]
      refine ⟨by simp [Rises], fun x hx => ?_, fun x => ?_⟩
      · rw [List.mem_singleton] at hx; subst hx; exact ⟨by omega, Int.le_refl _⟩
      · rw [List.mem_singleton]
        constructor
        · rintro rfl; exact ⟨0, by omega, rfl⟩
        · rintro ⟨j, hj, rfl⟩; rw [show j = 0 from by omega]
    · by_cases hk : d[m]! = d[m - 1]!
      · rw [Lib.keeps_neg (by omega) hk, if_neg Bool.false_ne_true, List.append_nil]
        refine ⟨h1, fun x hx => ⟨by omega, ?_⟩, fun x => ?_⟩
        · rw [Nat.add_sub_cancel, hk]; exact (h2 x hx).2
        · rw [h3 x]
          constructor
          · rintro ⟨j, hj, e⟩; exact ⟨j, by omega, e⟩
          · rintro ⟨j, hj, e⟩
            by_cases hjm : j = m
            · subst hjm; exact ⟨j - 1, by omega, by rw [← hk]; exact e⟩
            · exact ⟨j, by omega, e⟩
      · rw [Lib.keeps_pos hk, if_pos rfl]
        have hlt : d[m - 1]! < d[m]! := by have := hs (m - 1) m (by omega) (by omega); omega
        refine ⟨?_, fun x hx => ⟨by omega, ?_⟩, fun x => ?_⟩
        · unfold Rises at h1 ⊢
          rw [List.pairwise_append]
          refine ⟨h1, by simp, fun a ha b hb => ?_⟩
          rw [List.mem_singleton] at hb
          subst hb
          have := (h2 a ha).2; omega
        · rw [Nat.add_sub_cancel]
          rcases List.mem_append.1 hx with hx | hx
          · have := (h2 x hx).2; omega
          · rw [List.mem_singleton] at hx; omega
        · rw [List.mem_append, h3 x, List.mem_singleton]
          constructor
          · rintro (⟨j, hj, e⟩ | rfl)
            · exact ⟨j, by omega, e⟩
            · exact ⟨m, by omega, rfl⟩
          · rintro ⟨j, hj, e⟩
            by_cases hjm : j = m
            · subst hjm; exact .inr e.symm
            · exact .inl ⟨j, by omega, e⟩
theorem compact_asc {l s : List Int} (hs : s.Pairwise (· ≤ ·)) (hm : ∀ x, x ∈ s ↔ x ∈ l) : Lib.compact s = ascA l := by
  have hg : ∀ i, i < s.length → s.toArray[i]! = s[i]! := fun i hi => by simp
  obtain ⟨h1, h2, h3⟩ := compUp (d := s.toArray) (fun i j hij hj => by
    have hj' : j < s.length := by simpa using hj
    have := List.pairwise_iff_getElem.1 hs i j (by omega) hj' hij
    simpa [getElem!_pos, show i < s.length from by omega, hj'] using this) s.length (by simp)
  refine asc_of h1 fun x => ?_
  rw [show Lib.compact s = Lib.compactUpTo s.toArray s.length from rfl, h3 x, ← hm x]
  constructor
  · rintro ⟨j, hj, rfl⟩
    have : s.toArray[j]! = s[j] := by simp [getElem!_pos, hj]
    rw [this]; exact List.getElem_mem hj
  · intro hx
    obtain ⟨j, hj, rfl⟩ := List.mem_iff_getElem.1 hx
    exact ⟨j, hj, by simp [getElem!_pos, hj]⟩
theorem sorted_merge (l : List Int) : (l.mergeSort fun x y => decide (x ≤ y)).Pairwise (· ≤ ·) := by
  have := List.pairwise_mergeSort (le := fun x y : Int => decide (x ≤ y)) (fun a b c h1 h2 => by simp at *; omega) (fun a b => by simp; omega) l
  exact this.imp fun h => by simpa using h
theorem SepI.grow {w : World} {S : HP} (H : SepI w S) (os : Array Obj) : SepI (Go.Sort.grow w os) S := H.stays fun g hg => by
  show (w.heap ++ os)[g]? = _
  rw [Array.getElem?_append_left hg]
theorem ExtI.grow {u w : World} (i : ExtI u w) (os : Array Obj) : ExtI u (Go.Sort.grow w os) := ⟨i.os, i.tape, i.output, by
  show u.heap.size ≤ (w.heap ++ os).size
  rw [Array.size_append]
  exact Nat.le_trans i.size (Nat.le_add_right _ _)⟩
theorem holds_row {w : World} {g c n : Nat} {l : List Int} {S : HP} (H : SepI w (Row 3 1 (.slice (some ⟨g, 0, none⟩) n c) n (ints l) * S)) : Go.Sort.Holds (Value.int .i64) w g 0 l.toArray := fun j hj => by
  have hj' : j < l.length := by simpa using hj
  have e : (ints l)[j]? = some (.int .i64 (l.toArray[j]!)) := by rw [ints_get (List.getElem?_eq_getElem hj')]; simp [getElem!_pos, hj']
  have d1 : CellAt _ g j _ := Row.cellAt (e := 3) (size := 1) (g := g) (n := n) (c := c) (F := S) e
  rw [Nat.zero_add]
  exact ⟨cell_at w _ g j _, frozen_row w _ g j _ _ _ _ _⟩
theorem sortI (S : HP) (w : World) (g c : Nat) (l : List Int) (H : SepI w (Row 3 1 (.slice (some ⟨g, 0, none⟩) l.length c) l.length (ints l) * S)) (hn : l.length ≤ 1048576) :
    Calls Try.prog 105 #[.slice (some ⟨g, 0, none⟩) l.length c] w fun e w' => e = .returned (.tuple #[]) ∧ Post w (Row 3 1 (.slice (some ⟨g, 0, none⟩) l.length c) l.length (ints (l.mergeSort fun x y => decide (x ≤ y))) * S) w' := by
  have hH := holds_row H
  refine (Try.slices_Sort_int g 0 c l w hH (lt_row w _ g _ _ _ _ _) (by omega)).mono ?_
  rintro e w' ⟨rfl, q, os, rfl⟩
  refine ⟨rfl, ?_⟩
  rw [Lib.sorted_world _ w g 0 q _ _ os hH (by simp)]
  have HS := SepI.setCellsRow ((l.mergeSort fun x y => decide (x ≤ y)).map (Value.int .i64)) (ints l) 0 (w.drewN q) (SepI.i_drewN w _ q)
  rw [setL_all (by simp [ints])] at HS
  exact Post.mk' (SepI.grow HS os) (ExtI.grow (ExtI.setCells _ _ _ inferInstance) os)
theorem compactI (S : HP) (w : World) (g c : Nat) (l : List Int) (H : SepI w (Row 3 1 (.slice (some ⟨g, 0, none⟩) l.length c) l.length (ints l) * S)) (hn : l.length ≤ 1048576) :
    Calls Try.prog 106 #[.slice (some ⟨g, 0, none⟩) l.length c] w fun e w' => e = .returned (.slice (some ⟨g, 0, none⟩) (Lib.compact l).length c) ∧ Post w (Row 3 1 (.slice (some ⟨g, 0, none⟩) (Lib.compact l).length c) (Lib.compact l).length (ints (Lib.compact l)) * S) w' := by
  have hH := holds_row H
  have hcc : l.length ≤ c := by obtain ⟨_, _, hv, h1, _⟩ := Row.form H; injection hv with _ _ hv; omega
  have hle : (Lib.compact l).length ≤ l.length := by
    have := List.length_filter_le (Lib.keeps l.toArray) (List.range l.length)
    rw [List.length_range] at this
    show (List.map _ _).length ≤ _
    rw [List.length_map]; exact this
  have hc := Try.slices_Compact_int_cells g 0 l.length c l w (Nat.le_refl _) (by omega) hcc (fun j hj => by
    have := (hH j (by simpa using hj)).1
    rw [this]; simp [getElem!_pos, hj, List.getD_eq_getElem?_getD, List.getElem?_eq_getElem hj]) (fun j hj => (hH j (by simpa using hj)).2)
  rw [List.take_length] at hc
  refine hc.mono ?_
  rintro e w' ⟨rfl, q, rfl⟩
  refine ⟨rfl, ?_⟩
  have HS := SepI.setCellsRow ((Lib.compact l ++ List.replicate (l.length - (Lib.compact l).length) 0).map (Value.int .i64)) (ints l) 0 (w.drewN q) (SepI.i_drewN w _ q)
  rw [setL_all (by simp [ints]; omega)] at HS
  have HS2 := Row.shrink (i := (Lib.compact l).length) HS hle
  exact Post.mk' (SepI.cast HS2 (by rw [List.map_append, List.take_left' (by simp)]; rfl)) (ExtI.setCells _ _ _ inferInstance)
set_option maxHeartbeats 1000000 in
theorem ascendingI (S : HP) (w : World) (A : Option Addr) (c : Nat) (l : List Int) (H : SepI w (Row 3 1 (.slice A l.length c) l.length (ints l) * S)) (hn : l.length ≤ 1048576) :
    Calls Try.prog 93 #[.slice A l.length c] w fun e w' => ∃ v, e = .returned v ∧ Post w (Row 3 1 v (ascA l).length (ints (ascA l)) * S) w' := by
  by_cases hl : l = []
  · subst hl
    have ea : ascA [] = [] := rfl
    rw [ea]
    go_enter Try.func93, Try.ntmps93
    go_wp2_with fail
    refine (Try.slices_Sort_int_none _ _ _).mono ?_
    rintro e w1 ⟨rfl, rfl⟩
    go_wp2_with fail
    refine (Try.slices_Compact_int_empty _ _ _).mono ?_
    rintro e w2 ⟨rfl, rfl⟩
    go_wp2
    go_ret
    exact ⟨.slice A 0 c, rfl, Post.mk' H inferInstance⟩
  · obtain ⟨g, rfl⟩ : ∃ g, A = some ⟨g, 0, none⟩ := Row.addr H (by cases l with | nil => exact absurd rfl hl | cons x l => simp)
    obtain ⟨s, hs⟩ : ∃ s, s = l.mergeSort fun x y => decide (x ≤ y) := ⟨_, rfl⟩
    have hsl : s.length = l.length := by rw [hs]; simp
    have hca : Lib.compact s = ascA l := compact_asc (by rw [hs]; exact sorted_merge l) (fun x => by rw [hs]; exact List.mem_mergeSort)
    obtain ⟨m, hm⟩ : ∃ m, m = l.length := ⟨_, rfl⟩
    have h1 := sortI S w g c l H hn
    rw [← hs, ← hm] at h1
    have h2 : ∀ w1, SepI w1 (Row 3 1 (.slice (some ⟨g, 0, none⟩) m c) m (ints s) * S) → Calls Try.prog 106 #[.slice (some ⟨g, 0, none⟩) m c] w1 _ := fun w1 H1 => by
      rw [hm, ← hsl] at H1 ⊢
      exact compactI S w1 g c s H1 (by rw [hsl]; exact hn)
    rw [hca] at h2
    have C1 := Hd.mk h1
    have C2 := Hd.mk h2
    rw [← hm] at H hn ⊢
    clear h1 h2 hs hsl hca hm hl
    go_enter Try.func93, Try.ntmps93
    go_wp2_with fail
    refine C1.out.mono ?_
    rintro e w1 ⟨rfl, HP⟩
    have HS1 := HP.sep
    have HE1 := HP.ext
    clear HP
    go_wp2_with fail
    refine (C2.out w1 HS1).mono ?_
    rintro e w2 ⟨rfl, HP⟩
    have HS2 := HP.sep
    have HE2 := HP.ext
    clear HP
    go_wp2
    go_ret
    exact ⟨.slice (some ⟨g, 0, none⟩) (ascA l).length c, rfl, Post.mk' HS2 inferInstance⟩
end Go.Proofs.Ytobikkdnalnllaa
