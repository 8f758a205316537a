/- A number put to its place, by the reference's l1Put over a row of its own. Conditions: lengths within bounds. -/
import Derived.Test.YtobikkdnalnllaaQa
import Derived.Test.YtobikkdnalnllaaFr
namespace Go.Proofs.Ytobikkdnalnllaa
open Go.RowKit SL
attribute [local go_sem] cell_blk frozen_blk lt_blk cell_at frozen_row lt_row
set_option linter.unusedVariables false
set_option linter.unusedSimpArgs false

theorem ints_oneP (l : List Int) : ∀ u ∈ ints l, u.oneCell' = true := fun u hu => by
  unfold ints at hu
  obtain ⟨x, _, rfl⟩ := List.mem_map.1 hu
  rfl
theorem putA_at : ∀ (l : List Int) (n : Int) (k : Nat), k ≤ l.length → (∀ j y, j < k → l[j]? = some y → y < n) → (∀ y, l[k]? = some y → ¬ y < n) →
    putA l n = if l[k]? = some n then l else l.take k ++ n :: l.drop k
  | [], n, k, hk, _, _ => by
    have : k = 0 := by simpa using hk
    subst this; simp [putA]
  | x :: l, n, 0, hk, _, h => by
    have hx := h x rfl
    rw [putA, if_neg hx]
    by_cases e : x = n
    · rw [if_pos e, if_pos (by simp [e])]
    · rw [if_neg e, if_neg (by simpa using e)]; simp
  | x :: l, n, k + 1, hk, h0, h => by
    have hx := h0 0 x (by omega) rfl
    rw [putA, if_pos hx, putA_at l n k (by simpa using hk) (fun j y hj hy => h0 (j + 1) y (by omega) hy) (fun y hy => h y hy)]
    rw [List.getElem?_cons_succ]
    split <;> simp
theorem rd_take {e n c g k : Nat} {cs : List Value} {F : HP} : Rd (Row e 1 (.slice (some ⟨g, 0, none⟩) n c) n cs * F) (some ⟨g, 0, none⟩) (cs.take k) := ⟨fun w H => by
  rcases (Rd.of_row e 1 (some ⟨g, 0, none⟩) n c cs F).out w H with h | ⟨b, off, h1, h2, h3⟩
  · left; rw [h]; simp
  · right
    refine ⟨b, off, h1, h2, fun j v hj => h3 j v ?_⟩
    rw [List.getElem?_take] at hj
    split at hj
    · exact hj
    · cases hj⟩
theorem rd_drop {e n c g k : Nat} {cs : List Value} {F : HP} : Rd (Row e 1 (.slice (some ⟨g, 0, none⟩) n c) n cs * F) (some ⟨g, k, none⟩) (cs.drop k) := ⟨fun w H => by
  rcases (Rd.of_row e 1 (some ⟨g, 0, none⟩) n c cs F).out w H with h | ⟨b, off, h1, h2, h3⟩
  · left; rw [h]; simp
  · right
    injection h1 with h1
    injection h1 with h1 h4
    subst h1; subst h4
    refine ⟨g, k, rfl, h2, fun j v hj => ?_⟩
    rw [List.getElem?_drop] at hj
    have := h3 _ _ hj
    rwa [Nat.zero_add] at this⟩
set_option maxRecDepth 100000 in
set_option maxHeartbeats 4000000 in
theorem l1Put_some (S : HP) (w : World) (g : Nat) (c : Nat) (l : List Int) (H : SepI w (Row 3 1 (.slice (some ⟨g, 0, none⟩) l.length c) l.length (ints l) * S)) (hn : l.length ≤ 1048576) (x : Int) :
    Calls Try.prog 60 #[.slice (some ⟨g, 0, none⟩) l.length c, .int .i64 x] w fun e w' => ∃ v, e = .returned v ∧ Post w (Row 3 1 v (putA l x).length (ints (putA l x)) * S) w' := by
  have hcc : l.length ≤ c := by obtain ⟨_, _, hv, h1, _⟩ := Row.form H; injection hv with _ _ hv; omega
  obtain ⟨n, hn'⟩ : ∃ n, n = l.length := ⟨_, rfl⟩
  have HN := Hd.mk hn'
  obtain ⟨m, hm⟩ : ∃ m, m = putA l x := ⟨_, rfl⟩
  have HM : Hd (∀ k, k ≤ l.length → (∀ j y, j < k → l[j]? = some y → y < x) → (∀ y, l[k]? = some y → ¬ y < x) → m = if l[k]? = some x then l else l.take k ++ x :: l.drop k) := ⟨fun k h1 h2 h3 => by rw [hm]; exact putA_at l x k h1 h2 h3⟩
  rw [← hm]
  rw [← hn'] at hn hcc H ⊢
  clear hn' hm
  go_enter Try.func60, Try.ntmps60
  go_wp2
  go_loopw [5] (fun v wr => ∃ k : Nat, k ≤ n ∧ v = .int .i64 k ∧ Hd (∀ j y, j < k → l[j]? = some y → y < x) ∧ ExtI w wr ∧ SepI wr (Row 3 1 (.slice (some ⟨g, 0, none⟩) n c) n (ints l) * S)) (fun v _ => n - (intOf v).toNat)
  case atStart => exact ⟨0, Nat.zero_le _, rfl, ⟨fun j y hj => by omega⟩, inferInstance, inferInstance⟩
  case round =>
    obtain ⟨k, hk, rfl, HL, HX, HS⟩ := hrel
    by_cases hlt : k < n
    · obtain ⟨y, hy⟩ := get_ex (xs := l) (k := k) (by rw [← HN.out]; exact hlt)
      have d1 : CellAt _ g k _ := Row.cellAt (e := 3) (size := 1) (g := g) (n := n) (c := c) (F := S) (ints_get hy)
      have HY := Hd.mk hy
      clear hy
      by_cases hyx : y < x
      · go_wp2
        go_roundw
        case rel => exact ⟨k + 1, by omega, by go_num, ⟨fun j z hj hz => by
          by_cases hjk : j = k
          · subst hjk; have := HY.out; rw [hz] at this; injection this with e; omega
          · exact HL.out j z (by omega) hz⟩, inferInstance, inferInstance⟩
        case measure => (simp [intOf]; try omega)
      · have hge := HM.out k (by rw [← HN.out]; exact hk) HL.out (fun z hz => by rw [HY.out] at hz; injection hz with e; omega)
        by_cases hyn : y = x
        · rw [if_pos (by rw [HY.out, hyn])] at hge
          subst hge
          have hyb : (y == x) = true := beq_of hyn
          go_wp2
          go_ret
          exact ⟨.slice (some ⟨g, 0, none⟩) n c, rfl, by rw [← HN.out]; exact Post.mk' HS inferInstance⟩
        · rw [if_neg (by rw [HY.out]; simpa using hyn)] at hge
          have HG := Hd.mk hge
          have hyb : (y == x) = false := bne_of hyn
          clear hge
          have hkn : k ≤ c := by omega
          go_wp2
          clear hyb hyn hyx d1
          have hlit : ∀ {w' : World} {F : HP} {g1 : Nat}, SepI w' (pts g1 (.cells #[] 3 (0, 0)) * F) → SepI w' (Row 3 1 (.slice (some ⟨g1, 0, none⟩) 0 0) 0 [] * F) := fun h => Row.lit0 h
          have hA : SepI ((wr.alloc (.cells #[.int .i64 x] 3 (0, 0))).alloc (.cells #[] 3 (0, 0))).drew (Row 3 1 (.slice (some ⟨wr.heap.size + 1, 0, none⟩) 0 0) 0 [] * (pts wr.heap.size (.cells #[.int .i64 x] 3 (0, 0)) * (Row 3 1 (.slice (some ⟨g, 0, none⟩) n c) n (ints l) * S))) :=
            hlit (@SepI.i_drew _ _ (@SepI.i_alloc (wr.alloc (.cells #[.int .i64 x] 3 (0, 0))) (.cells #[] 3 (0, 0)) _ (wr.heap.size + 1) (@SepI.i_alloc wr (.cells #[.int .i64 x] 3 (0, 0)) _ wr.heap.size HS inferInstance) inferInstance))
          have hB : SepI ((wr.alloc (.cells #[] 3 (0, 0))).alloc (.cells #[.int .i64 x] 3 (0, 0))).drew (Row 3 1 (.slice (some ⟨wr.heap.size, 0, none⟩) 0 0) 0 [] * (pts (wr.heap.size + 1) (.cells #[.int .i64 x] 3 (0, 0)) * (Row 3 1 (.slice (some ⟨g, 0, none⟩) n c) n (ints l) * S))) :=
            hlit (SepI.cast (@SepI.i_drew _ _ (@SepI.i_alloc (wr.alloc (.cells #[] 3 (0, 0))) (.cells #[.int .i64 x] 3 (0, 0)) _ (wr.heap.size + 1) (@SepI.i_alloc wr (.cells #[] 3 (0, 0)) _ wr.heap.size HS inferInstance) inferInstance)) (star_left _ _ _))
          obtain ⟨A2, hA2⟩ : ∃ A2 : Option Addr, (if c = k then some (⟨g, 0, none⟩ : Addr) else some ⟨g, k, none⟩) = A2 := ⟨_, rfl⟩
          have HR1 : Hd (∀ F, Rd (Row 3 1 (.slice (some ⟨g, 0, none⟩) n c) n (ints l) * F) (some ⟨g, 0, none⟩) ((ints l).take k)) := ⟨fun F => rd_take⟩
          have HA1 : Hd ((some ⟨g, 0, none⟩ : Option Addr) = none → k = 0 ∧ c = 0) := ⟨fun h => by cases h⟩
          have HR2 : Hd (∀ F, Rd (Row 3 1 (.slice (some ⟨g, 0, none⟩) n c) n (ints l) * F) A2 ((ints l).drop k)) := ⟨fun F => by
            rw [← hA2]
            split
            · rw [List.drop_of_length_le (by rw [ints_len, ← HN.out]; omega)]; exact Rd.nil _ _
            · exact rd_drop⟩
          have HA2 : Hd (A2 = none → n - k = 0 ∧ c - k = 0) := ⟨fun h => by rw [h] at hA2; split at hA2 <;> cases hA2⟩
          go_region_held3 (fun _ => True) (trivial)
            (first
            | (refine st_list rfl (ev_appendR (H := hlit inferInstance) (v := .slice (some ⟨wr.heap.size, 0, none⟩) 0 0) rfl _ _ 26 rfl rfl 8 _ Try.underlying26 info_int rfl (by decide) (by decide) (some ⟨g, 0, none⟩) k c rfl (rx := by first | exact @Rd.there _ _ _ _ (HR1.out _) | exact @Rd.there _ _ _ _ (@Rd.there _ _ _ _ (HR1.out _))) (news := (ints l).take k) HA1.out (by rw [List.length_take, ints_len]; have := HN.out; omega) (fun u hu => ints_oneP l u (List.mem_of_mem_take hu)) (by omega) ?_); rw [Nat.zero_add, List.nil_append]; intro v1 w2 HS2 HE2; refine ⟨rfl, ?_⟩)
            | (refine st_list rfl (ev_appendR (H := hA) (v := .slice (some ⟨(wr.heap.size + 1), 0, none⟩) 0 0) rfl _ _ 26 rfl rfl 8 _ Try.underlying26 info_int rfl (by decide) (by decide) (some ⟨g, 0, none⟩) k c rfl (rx := by first | exact @Rd.there _ _ _ _ (HR1.out _) | exact @Rd.there _ _ _ _ (@Rd.there _ _ _ _ (HR1.out _))) (news := (ints l).take k) HA1.out (by rw [List.length_take, ints_len]; have := HN.out; omega) (fun u hu => ints_oneP l u (List.mem_of_mem_take hu)) (by omega) ?_); rw [Nat.zero_add, List.nil_append]; intro v1 w2 HS2 HE2; refine ⟨rfl, ?_⟩)
            | (refine st_list rfl (ev_appendR (H := hB) (v := .slice (some ⟨wr.heap.size, 0, none⟩) 0 0) rfl _ _ 26 rfl rfl 8 _ Try.underlying26 info_int rfl (by decide) (by decide) (some ⟨g, 0, none⟩) k c rfl (rx := by first | exact @Rd.there _ _ _ _ (HR1.out _) | exact @Rd.there _ _ _ _ (@Rd.there _ _ _ _ (HR1.out _))) (news := (ints l).take k) HA1.out (by rw [List.length_take, ints_len]; have := HN.out; omega) (fun u hu => ints_oneP l u (List.mem_of_mem_take hu)) (by omega) ?_); rw [Nat.zero_add, List.nil_append]; intro v1 w2 HS2 HE2; refine ⟨rfl, ?_⟩)
            | (refine st_list rfl (ev_append (v := v1) rfl _ _ 26 rfl rfl 8 _ Try.underlying26 info_int rfl (by decide) (by decide) wr.heap.size 1 1 rfl rfl (by simp [Value.oneCell']) (by omega) ?_); intro v2 w3 HS3 HE3; refine ⟨rfl, ?_⟩)
            | (refine st_list rfl (ev_append (v := v1) rfl _ _ 26 rfl rfl 8 _ Try.underlying26 info_int rfl (by decide) (by decide) (wr.heap.size + 1) 1 1 rfl rfl (by simp [Value.oneCell']) (by omega) ?_); intro v2 w3 HS3 HE3; refine ⟨rfl, ?_⟩)
            | (refine st_list rfl (ev_append (v := v1) rfl _ _ 26 rfl rfl 8 _ Try.underlying26 info_int rfl (by decide) (by decide) w2.heap.size 1 1 rfl rfl (by simp [Value.oneCell']) (by omega) ?_); intro v2 w3 HS3 HE3; refine ⟨rfl, ?_⟩)
            | (refine st_list rfl (ev_appendR (v := v2) rfl _ _ 26 rfl rfl 8 _ Try.underlying26 info_int rfl (by decide) (by decide) A2 (n - k) (c - k) rfl (rx := by first | exact @Rd.there _ _ _ _ (HR2.out _) | exact @Rd.there _ _ _ _ (@Rd.there _ _ _ _ (HR2.out _))) (news := (ints l).drop k) HA2.out (by rw [List.length_drop, ints_len]; have := HN.out; omega) (fun u hu => ints_oneP l u (List.mem_of_mem_drop hu)) (by omega) ?_); intro v3 w4 HS4 HE4; refine ⟨rfl, ?_⟩))
          all_goals
            go_wp2
            go_ret
            exact ⟨v3, rfl, Post.mk' (SepI.cast (Ent.sep (S := _) (T := Row 3 1 v3 (k + 1 + (n - k)) ((ints l).take k ++ [.int .i64 x] ++ (ints l).drop k) * S) inferInstance HS4) (by
              rw [HG.out]
              have e : (l.take k ++ x :: l.drop k).length = k + 1 + (n - k) := by rw [List.length_append, List.length_cons, List.length_take, List.length_drop]; have := HN.out; omega
              rw [e]
              unfold ints
              rw [List.map_append, List.map_cons, List.map_take, List.map_drop, List.append_assoc]; rfl)) inferInstance⟩
    · have hkk : k = n := by omega
      have hge := HM.out k (by rw [← HN.out]; exact hk) HL.out (fun z hz => by rw [List.getElem?_eq_none (by rw [← HN.out]; omega)] at hz; cases hz)
      rw [if_neg (by rw [List.getElem?_eq_none (by rw [← HN.out]; omega)]; simp)] at hge
      have HG := Hd.mk hge
      have hkn : k ≤ c := by omega
      have HKK := Hd.mk hkk
      clear hge hkk
      go_wp2
      have hlit : ∀ {w' : World} {F : HP} {g1 : Nat}, SepI w' (pts g1 (.cells #[] 3 (0, 0)) * F) → SepI w' (Row 3 1 (.slice (some ⟨g1, 0, none⟩) 0 0) 0 [] * F) := fun h => Row.lit0 h
      have hA : SepI ((wr.alloc (.cells #[.int .i64 x] 3 (0, 0))).alloc (.cells #[] 3 (0, 0))).drew (Row 3 1 (.slice (some ⟨wr.heap.size + 1, 0, none⟩) 0 0) 0 [] * (pts wr.heap.size (.cells #[.int .i64 x] 3 (0, 0)) * (Row 3 1 (.slice (some ⟨g, 0, none⟩) n c) n (ints l) * S))) :=
        hlit (@SepI.i_drew _ _ (@SepI.i_alloc (wr.alloc (.cells #[.int .i64 x] 3 (0, 0))) (.cells #[] 3 (0, 0)) _ (wr.heap.size + 1) (@SepI.i_alloc wr (.cells #[.int .i64 x] 3 (0, 0)) _ wr.heap.size HS inferInstance) inferInstance))
      have hB : SepI ((wr.alloc (.cells #[] 3 (0, 0))).alloc (.cells #[.int .i64 x] 3 (0, 0))).drew (Row 3 1 (.slice (some ⟨wr.heap.size, 0, none⟩) 0 0) 0 [] * (pts (wr.heap.size + 1) (.cells #[.int .i64 x] 3 (0, 0)) * (Row 3 1 (.slice (some ⟨g, 0, none⟩) n c) n (ints l) * S))) :=
        hlit (SepI.cast (@SepI.i_drew _ _ (@SepI.i_alloc (wr.alloc (.cells #[] 3 (0, 0))) (.cells #[.int .i64 x] 3 (0, 0)) _ (wr.heap.size + 1) (@SepI.i_alloc wr (.cells #[] 3 (0, 0)) _ wr.heap.size HS inferInstance) inferInstance)) (star_left _ _ _))
      obtain ⟨A2, hA2⟩ : ∃ A2 : Option Addr, (if c = k then some (⟨g, 0, none⟩ : Addr) else some ⟨g, k, none⟩) = A2 := ⟨_, rfl⟩
      have HR1 : Hd (∀ F, Rd (Row 3 1 (.slice (some ⟨g, 0, none⟩) n c) n (ints l) * F) (some ⟨g, 0, none⟩) ((ints l).take k)) := ⟨fun F => rd_take⟩
      have HA1 : Hd ((some ⟨g, 0, none⟩ : Option Addr) = none → k = 0 ∧ c = 0) := ⟨fun h => by cases h⟩
      have HR2 : Hd (∀ F, Rd (Row 3 1 (.slice (some ⟨g, 0, none⟩) n c) n (ints l) * F) A2 ((ints l).drop k)) := ⟨fun F => by
        rw [← hA2]
        split
        · rw [List.drop_of_length_le (by rw [ints_len, ← HN.out]; omega)]; exact Rd.nil _ _
        · exact rd_drop⟩
      have HA2 : Hd (A2 = none → n - k = 0 ∧ c - k = 0) := ⟨fun h => by rw [h] at hA2; split at hA2 <;> cases hA2⟩
      go_region_held3 (fun _ => True) (trivial)
        (first
        | (refine st_list rfl (ev_appendR (H := hlit inferInstance) (v := .slice (some ⟨wr.heap.size, 0, none⟩) 0 0) rfl _ _ 26 rfl rfl 8 _ Try.underlying26 info_int rfl (by decide) (by decide) (some ⟨g, 0, none⟩) k c rfl (rx := by first | exact @Rd.there _ _ _ _ (HR1.out _) | exact @Rd.there _ _ _ _ (@Rd.there _ _ _ _ (HR1.out _))) (news := (ints l).take k) HA1.out (by rw [List.length_take, ints_len]; have := HN.out; omega) (fun u hu => ints_oneP l u (List.mem_of_mem_take hu)) (by omega) ?_); rw [Nat.zero_add, List.nil_append]; intro v1 w2 HS2 HE2; refine ⟨rfl, ?_⟩)
        | (refine st_list rfl (ev_appendR (H := hA) (v := .slice (some ⟨(wr.heap.size + 1), 0, none⟩) 0 0) rfl _ _ 26 rfl rfl 8 _ Try.underlying26 info_int rfl (by decide) (by decide) (some ⟨g, 0, none⟩) k c rfl (rx := by first | exact @Rd.there _ _ _ _ (HR1.out _) | exact @Rd.there _ _ _ _ (@Rd.there _ _ _ _ (HR1.out _))) (news := (ints l).take k) HA1.out (by rw [List.length_take, ints_len]; have := HN.out; omega) (fun u hu => ints_oneP l u (List.mem_of_mem_take hu)) (by omega) ?_); rw [Nat.zero_add, List.nil_append]; intro v1 w2 HS2 HE2; refine ⟨rfl, ?_⟩)
        | (refine st_list rfl (ev_appendR (H := hB) (v := .slice (some ⟨wr.heap.size, 0, none⟩) 0 0) rfl _ _ 26 rfl rfl 8 _ Try.underlying26 info_int rfl (by decide) (by decide) (some ⟨g, 0, none⟩) k c rfl (rx := by first | exact @Rd.there _ _ _ _ (HR1.out _) | exact @Rd.there _ _ _ _ (@Rd.there _ _ _ _ (HR1.out _))) (news := (ints l).take k) HA1.out (by rw [List.length_take, ints_len]; have := HN.out; omega) (fun u hu => ints_oneP l u (List.mem_of_mem_take hu)) (by omega) ?_); rw [Nat.zero_add, List.nil_append]; intro v1 w2 HS2 HE2; refine ⟨rfl, ?_⟩)
        | (refine st_list rfl (ev_append (v := v1) rfl _ _ 26 rfl rfl 8 _ Try.underlying26 info_int rfl (by decide) (by decide) wr.heap.size 1 1 rfl rfl (by simp [Value.oneCell']) (by omega) ?_); intro v2 w3 HS3 HE3; refine ⟨rfl, ?_⟩)
        | (refine st_list rfl (ev_append (v := v1) rfl _ _ 26 rfl rfl 8 _ Try.underlying26 info_int rfl (by decide) (by decide) (wr.heap.size + 1) 1 1 rfl rfl (by simp [Value.oneCell']) (by omega) ?_); intro v2 w3 HS3 HE3; refine ⟨rfl, ?_⟩)
        | (refine st_list rfl (ev_append (v := v1) rfl _ _ 26 rfl rfl 8 _ Try.underlying26 info_int rfl (by decide) (by decide) w2.heap.size 1 1 rfl rfl (by simp [Value.oneCell']) (by omega) ?_); intro v2 w3 HS3 HE3; refine ⟨rfl, ?_⟩)
        | (refine st_list rfl (ev_appendR (v := v2) rfl _ _ 26 rfl rfl 8 _ Try.underlying26 info_int rfl (by decide) (by decide) A2 (n - k) (c - k) rfl (rx := by first | exact @Rd.there _ _ _ _ (HR2.out _) | exact @Rd.there _ _ _ _ (@Rd.there _ _ _ _ (HR2.out _))) (news := (ints l).drop k) HA2.out (by rw [List.length_drop, ints_len]; have := HN.out; omega) (fun u hu => ints_oneP l u (List.mem_of_mem_drop hu)) (by omega) ?_); intro v3 w4 HS4 HE4; refine ⟨rfl, ?_⟩))
      all_goals
        go_wp2
        go_ret
        exact ⟨v3, rfl, Post.mk' (SepI.cast (Ent.sep (S := _) (T := Row 3 1 v3 (k + 1 + (n - k)) ((ints l).take k ++ [.int .i64 x] ++ (ints l).drop k) * S) inferInstance HS4) (by
          rw [HG.out]
          have e : (l.take k ++ x :: l.drop k).length = k + 1 + (n - k) := by rw [List.length_append, List.length_cons, List.length_take, List.length_drop]; have := HN.out; omega
          rw [e]
          unfold ints
          rw [List.map_append, List.map_cons, List.map_take, List.map_drop, List.append_assoc]; rfl)) inferInstance⟩

end Go.Proofs.Ytobikkdnalnllaa
