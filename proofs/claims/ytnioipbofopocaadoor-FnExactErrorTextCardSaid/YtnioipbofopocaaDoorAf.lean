/- Valid errors: the reference's way; the law. Conditions: lengths within bounds. -/
import Derived.Test.YtnioipbofopocaaDoorAe
namespace Go.Proofs.YtnioipbofopocaaDoor
open Go.RowKit SL
attribute [local go_sem] cell_blk frozen_blk lt_blk cell_at frozen_row lt_row
set_option linter.unusedVariables false
set_option linter.unusedSimpArgs false

theorem all_take_succ' {α : Type} {l : List α} {k : Nat} {x : α} (p : α → Bool) (h : l[k]? = some x) (h0 : (l.take k).all p = true) (h1 : p x = true) : (l.take (k + 1)).all p = true := by
  rw [take_succ_eq h, List.all_append, h0]; simp [h1]
theorem all_miss' {α : Type} {l : List α} {k : Nat} {x : α} (p : α → Bool) (h : l[k]? = some x) (h1 : p x = false) : l.all p = false := by
  rw [← Bool.not_eq_true, List.all_eq_true]
  intro q
  rw [q x (List.mem_of_getElem? h)] at h1
  cases h1

set_option maxRecDepth 100000 in
set_option maxHeartbeats 8000000 in
theorem spec_l6Node (S : HP) (w : World) [H : SepI w S] (x : EN) (i n : Nat) [r : Rd S x.p (ints x.l)] (hx : x.l.length ≤ 1048576) (hi : i ≤ 1048576) (hn : n ≤ 1048576) :
    Calls Tryd.prog 112 #[.agg #[.int .i64 x.k, .int .i64 x.c, .slice x.p x.l.length x.pc], .int .i64 i, .int .i64 n] w fun e w' => e = .returned (.bool (nodeB n i (ecOf x))) ∧ Post w S w' := by
  obtain ⟨m, hm⟩ : ∃ m, m = x.l.length := ⟨_, rfl⟩
  obtain ⟨gd, hgd⟩ : ∃ gd, kindB (ecOf x) = gd := ⟨_, rfl⟩
  obtain ⟨ci, hci⟩ : ∃ ci, inB x.c 0 99 = ci := ⟨_, rfl⟩
  have hND : nodeB n i (ecOf x) = (gd && (ci && (decide (m ≤ 12) && partsB n i x.l))) := by
    show (kindB (ecOf x) && (inB x.c 0 99 && (decide (x.l.length ≤ 12) && partsB n i x.l))) = _; rw [hgd, hci, ← hm]
  rw [hND, ← hm]
  rw [← hm] at hx
  have HM := Hd.mk hm
  have HGD := Hd.mk hgd
  have HCI := Hd.mk hci
  clear hm hgd hci hND
  cases ci
  · go_enter Tryd.func112, Tryd.ntmps112
    go_wp2_with (go_at_call 38; refine (spec_in _ _ _ _ _ HCI.out).mono ?_; rintro e w' ⟨rfl, rfl⟩)
    go_ret
    exact ⟨ret_b (by simp), Post.mk' (Ent.sep (S := _) inferInstance inferInstance) inferInstance⟩
  by_cases h12 : m ≤ 12
  · have e12 : decide (m ≤ 12) = true := decide_eq_true h12
    rw [e12]
    clear e12
    go_enter Tryd.func112, Tryd.ntmps112
    go_wp2_with (go_at_call 38; refine (spec_in _ _ _ _ _ HCI.out).mono ?_; rintro e w' ⟨rfl, rfl⟩)
    obtain ⟨g, hg⟩ : ∃ g, g = w.heap.size := ⟨_, rfl⟩
    have H1 : SepI (w.alloc (.cells #[.int .i64 x.k, .int .i64 x.c, .slice x.p m x.pc] 99)) (pts g (.cells #[.int .i64 x.k, .int .i64 x.c, .slice x.p m x.pc] 99 (0, 0)) * S) := by rw [hg]; infer_instance
    rw [← hg]
    have HG := Hd.mk hg
    clear hg
    go_loopw [7] (fun v wr => ∃ j : Nat, j ≤ m ∧ v = .int .i64 j ∧ Hd ((x.l.take j).all (fun k => inB k ((i : Int) + 1) ((n : Int) - 1)) = true) ∧ SepI wr (pts g (.cells #[.int .i64 x.k, .int .i64 x.c, .slice x.p m x.pc] 99 (0, 0)) * S) ∧ ExtI w wr) (fun v _ => m - (intOf v).toNat)
    case atStart => exact ⟨0, Nat.zero_le _, rfl, ⟨rfl⟩, H1, inferInstance⟩
    case round =>
      obtain ⟨j, hj, rfl, HT, HS, HE⟩ := hrel
      by_cases hlt : j < m
      · obtain ⟨y, hy⟩ := get_ex (xs := x.l) (k := j) (by rw [← HM.out]; exact hlt)
        obtain ⟨p, hp⟩ : ∃ p, p = x.p := ⟨_, rfl⟩
        rw [← hp] at r HS ⊢
        obtain ⟨b, off, rfl⟩ := r.addr H (j := j) (by rw [ints_len, ← HM.out]; omega)
        have c1 := r.cell (ints_get hy)
        have HY := Hd.mk hy
        have HPX := Hd.mk hp
        clear hy hp
        cases hq : inB y ((i : Int) + 1) ((n : Int) - 1)
        · have HQ := Hd.mk hq
          clear hq
          go_wp2_with (go_at_call 38; refine (spec_in _ _ _ _ _ HQ.out).mono ?_; rintro e w' ⟨rfl, rfl⟩)
          go_ret
          exact ⟨ret_b (by unfold partsB; rw [all_miss' _ HY.out HQ.out]; simp), Post.mk' (Ent.sep (S := _) inferInstance inferInstance) inferInstance⟩
        · have HQ := Hd.mk hq
          clear hq
          go_wp2_with (go_at_call 38; refine (spec_in _ _ _ _ _ HQ.out).mono ?_; rintro e w' ⟨rfl, rfl⟩)
          go_roundw
          case rel => exact ⟨j + 1, by omega, by go_num, ⟨all_take_succ' _ HY.out HT.out HQ.out⟩, inferInstance, inferInstance⟩
          case measure => simp [intOf]; omega
      · have : j = m := by omega
        subst this
        have HPB : Hd (partsB n i x.l = true) := ⟨by have := HT.out; rw [HM.out, List.take_length] at this; exact this⟩
        by_cases h1 : x.k = 1
        · have q1 := beq_of h1
          have K1 := Hd.mk h1
          clear h1
          go_wp2
          go_ret
          exact ⟨ret_b (by rw [HPB.out, ← HGD.out]; simp [kindB, ecOf, ← HM.out, K1.out, beq_dec0]), Post.mk' (Ent.sep (S := _) inferInstance inferInstance) inferInstance⟩
        have q1 := bne_of h1
        by_cases h4 : x.k = 4
        · have q4 := beq_of h4
          have K4 := Hd.mk h4
          clear h4 h1
          go_wp2
          go_ret
          exact ⟨ret_b (by rw [HPB.out, ← HGD.out]; simp [kindB, ecOf, ← HM.out, K4.out, beq_dec0]), Post.mk' (Ent.sep (S := _) inferInstance inferInstance) inferInstance⟩
        have q4 := bne_of h4
        by_cases h2 : x.k = 2
        · have q2 := beq_of h2
          have K2 := Hd.mk h2
          clear h2 h1 h4
          go_wp2
          go_ret
          exact ⟨ret_b (by rw [HPB.out, ← HGD.out]; simp [kindB, ecOf, ← HM.out, K2.out, beq_dec1]), Post.mk' (Ent.sep (S := _) inferInstance inferInstance) inferInstance⟩
        have q2 := bne_of h2
        by_cases h3 : x.k = 3
        · have q3 := beq_of h3
          have K3 := Hd.mk h3
          clear h1 h2 h3 h4
          by_cases hm1 : 1 ≤ j
          · have hm0 : 0 < j := hm1
            clear hm1
            go_wp2
            go_ret
            exact ⟨ret_b (by rw [HPB.out, ← HGD.out]; simp [kindB, ecOf, ← HM.out, K3.out, hm0, beq_decc, show 1 ≤ j from hm0]), Post.mk' (Ent.sep (S := _) inferInstance inferInstance) inferInstance⟩
          · have hm0 : ¬ 0 < j := by omega
            clear hm1
            go_wp2
            go_ret
            exact ⟨ret_b (by rw [HPB.out, ← HGD.out]; simp [kindB, ecOf, ← HM.out, K3.out]; try omega), Post.mk' (Ent.sep (S := _) inferInstance inferInstance) inferInstance⟩
        · have q3 := bne_of h3
          have K := Hd.mk (And.intro h1 (And.intro h2 (And.intro h3 h4)))
          clear h1 h2 h3 h4
          go_wp2
          go_ret
          exact ⟨ret_b (by rw [HPB.out, ← HGD.out]; simp [kindB, ecOf, K.out.1, K.out.2.1, K.out.2.2.1, K.out.2.2.2]), Post.mk' (Ent.sep (S := _) inferInstance inferInstance) inferInstance⟩
  · have e12 : decide (m ≤ 12) = false := decide_eq_false h12
    rw [e12]
    have h12' : 12 < m := by omega
    clear e12 h12
    go_enter Tryd.func112, Tryd.ntmps112
    go_wp2_with (go_at_call 38; refine (spec_in _ _ _ _ _ HCI.out).mono ?_; rintro e w' ⟨rfl, rfl⟩)
    go_ret
    exact ⟨ret_b (by simp), Post.mk' (Ent.sep (S := _) inferInstance inferInstance) inferInstance⟩

set_option maxRecDepth 100000 in
set_option maxHeartbeats 4000000 in
theorem spec_l6Errors (S : HP) (w : World) [H : SepI w S] (A : Option Addr) (c : Nat) (es : List EN) [r : Rd S A (cENs es)] [B : Nodes S es] :
    Calls Tryd.prog 79 #[.agg #[.slice A es.length c]] w fun e w' => e = .returned (.bool (errsB (es.map ecOf))) ∧ Post w S w' := by
  have hn := B.n
  have HB := Hd.mk B
  clear B
  obtain ⟨n, hn'⟩ : ∃ n, n = es.length := ⟨_, rfl⟩
  have HN := Hd.mk hn'
  rw [← hn'] at hn ⊢
  have hP : errsB (es.map ecOf) = (inB n 1 12 && nodesB n 0 (es.map ecOf)) := by unfold errsB; rw [List.length_map, ← hn']
  rw [hP]
  clear hn' hP
  go_enter Tryd.func79, Tryd.ntmps79
  go_wp2_with fail
  obtain ⟨g, hg⟩ : ∃ g, g = w.heap.size := ⟨_, rfl⟩
  have H1 : SepI (w.alloc (.cells #[.slice A n c] 42)) (pts g (.cells #[.slice A n c] 42 (0, 0)) * S) := by rw [hg]; infer_instance
  rw [← hg]
  have HG := Hd.mk hg
  clear hg
  go_loopw [4] (fun i wr => ∃ k : Nat, k ≤ n ∧ k ≤ 13 ∧ i = .int .i64 k ∧ Hd (nodesB n 0 ((es.take k).map ecOf) = true) ∧ SepI wr (pts g (.cells #[.slice A n c] 42 (0, 0)) * S) ∧ ExtI w wr) (fun i _ => n - (intOf i).toNat)
  case atStart => exact ⟨0, Nat.zero_le _, by omega, rfl, ⟨rfl⟩, H1, inferInstance⟩
  case round =>
    obtain ⟨k, hk, hk13, rfl, HT, HS, HE⟩ := hrel
    by_cases hlt : k < n
    · by_cases h13 : k ≤ 12
      · obtain ⟨x, hx⟩ := get_ex (xs := es) (k := k) (by rw [← HN.out]; exact hlt)
        obtain ⟨b, off, rfl⟩ := r.addr H (j := k) (by rw [cENs_len, ← HN.out]; omega)
        have c1 := r.cell (cENs_get hx).1
        have c2 := r.cell (cENs_get hx).2.1
        have c3 := r.cell (cENs_get hx).2.2
        have rx := HB.out.rd x (List.mem_of_getElem? hx)
        have sx := HB.out.small x (List.mem_of_getElem? hx)
        have HX := Hd.mk hx
        clear hx
        cases hq : nodeB n k (ecOf x)
        · have HQ := Hd.mk hq
          clear hq
          go_wp2_with (go_at_call 112; refine (spec_l6Node _ _ x k n sx (by omega) hn).mono ?_; rintro e w' ⟨rfl, HP⟩; rw [HQ.out]; have HS2 := HP.sep; have HE2 := HP.ext; clear HP)
          go_ret
          exact ⟨ret_b (by rw [nodesB_miss HX.out HQ.out, Bool.and_false]), Post.mk' (Ent.sep (S := _) inferInstance inferInstance) inferInstance⟩
        · have HQ := Hd.mk hq
          clear hq
          go_wp2_with (go_at_call 112; refine (spec_l6Node _ _ x k n sx (by omega) hn).mono ?_; rintro e w' ⟨rfl, HP⟩; rw [HQ.out]; have HS2 := HP.sep; have HE2 := HP.ext; clear HP)
          go_roundw
          case rel => exact ⟨k + 1, by omega, by omega, by go_num, ⟨nodesB_take_succ HX.out HT.out HQ.out⟩, inferInstance, inferInstance⟩
          case measure => simp [intOf]; omega
      · have h13' : 12 < k := by omega
        have HI : Hd (inB n 1 12 = false) := ⟨decide_eq_false (by omega)⟩
        clear h13
        go_wp2_with (go_at_call 38; refine (spec_in _ _ _ _ _ HI.out).mono ?_; rintro e w' ⟨rfl, rfl⟩)
        go_ret
        exact ⟨ret_b (by rw [HI.out]; rfl), Post.mk' (Ent.sep (S := _) inferInstance inferInstance) inferInstance⟩
    · have : k = n := by omega
      subst this
      cases hi : inB k 1 12
      all_goals
        have HI := Hd.mk hi
        clear hi
        go_wp2_with (go_at_call 38; refine (spec_in _ _ _ _ _ HI.out).mono ?_; rintro e w' ⟨rfl, rfl⟩)
        go_ret
        exact ⟨ret_b (by have := HT.out; rw [HN.out, List.take_length, ← HN.out] at this; rw [this, Bool.and_true]; first | rfl | exact HI.out.symm), Post.mk' (Ent.sep (S := _) inferInstance inferInstance) inferInstance⟩


/-- What the laws over errors share. -/
theorem le_sum_ofE : ∀ {l : List Nat} {n : Nat}, n ∈ l → n ≤ l.sum
  | [], n, h => by cases h
  | m :: l, n, h => by
    rcases List.mem_cons.1 h with rfl | h
    · simp
    · have := le_sum_ofE h; simp; omega
theorem SzE.small {es : List EN} {r : Int} (h : 0 ≤ r ∧ r + es.length + ((es.map fun x => x.l.length).sum : Nat) = 1048576) : es.length ≤ 1048576 ∧ ∀ x ∈ es, x.l.length ≤ 1048576 := by
  refine ⟨by omega, fun x hx => ?_⟩
  have : x.l.length ≤ (es.map fun x => x.l.length).sum := le_sum_ofE (List.mem_map.2 ⟨x, hx, rfl⟩)
  omega
instance Rd.of_OwnE (A : Option Addr) (n c : Nat) (es : List EN) (F : HP) : Rd (OwnE (.slice A n c) es * F) A (cENs es) := ⟨fun w H => by
  have H1 : SepI w (Row 99 3 (.slice A n c) es.length (cENs es) * (stars (es.map OwnI) * F)) := by rw [← star_assoc]; exact H
  by_cases hn : n = es.length
  · subst hn
    exact (Rd.of_row 99 3 A es.length c (cENs es) (stars (es.map OwnI) * F)).out w H1
  · rcases Row.open H1 with ⟨hv, hl, _⟩ | ⟨g, cap, cur, hv, _⟩
    · injection hv with _ h2 _; omega
    · injection hv with _ h2 _; omega⟩
theorem Nodes.of_OwnE {v : Value} {es : List EN} (F : HP) (h : ∀ x ∈ es, x.l.length ≤ 1048576) (hn : es.length ≤ 1048576) : Nodes (OwnE v es * F) es := ⟨fun x hx => ⟨fun w H => by
  obtain ⟨R, hR⟩ := stars_pick (List.mem_map.2 ⟨x, hx, rfl⟩ : OwnI x ∈ es.map OwnI)
  have H1 : SepI w (OwnI x * (Row 99 3 v es.length (cENs es) * (R * F))) := by
    refine SepI.cast H ?_
    unfold OwnE
    rw [hR]
    ac_rfl
  exact (Rd.of_row 3 1 x.p x.l.length x.pc (ints x.l) _).out w H1⟩, h, hn⟩
theorem lenE_of_map {es es' : List EN} (h : es'.map ecOf = es.map ecOf) : es'.length = es.length := by simpa using congrArg List.length h
theorem smallE_of_map {es es' : List EN} (h : es'.map ecOf = es.map ecOf) (hs : ∀ x ∈ es, x.l.length ≤ 1048576) : ∀ x ∈ es', x.l.length ≤ 1048576 := fun x hx => by
  have : ecOf x ∈ es.map ecOf := by rw [← h]; exact List.mem_map.2 ⟨x, hx, rfl⟩
  obtain ⟨y, hy, e⟩ := List.mem_map.1 this
  have e2 : y.l = x.l := by injection e with _ e; injection e
  rw [← e2]; exact hs y hy
theorem Nodes.own {v : Value} {es es' : List EN} (h : es'.map ecOf = es.map ecOf) (hs : es.length ≤ 1048576 ∧ ∀ x ∈ es, x.l.length ≤ 1048576) : ∀ F, Nodes (OwnE v es' * F) es' := fun F =>
  Nodes.of_OwnE F (smallE_of_map h hs.2) (by rw [lenE_of_map h]; exact hs.1)
/-- The argument as it is read. -/
structure ArgE (S : HP) (A : Option Addr) (es : List EN) : Prop where
  rd : Rd S A (cENs es)
  inner : ∀ x ∈ es, Rd S x.p (ints x.l)
  max : ∀ x ∈ es, x.l.length ≤ maxLen
  n : es.length ≤ maxLen
end Go.Proofs.YtnioipbofopocaaDoor
