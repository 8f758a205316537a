/- Valid errors: the program's way and the reference's. Conditions: lengths within bounds. -/
import Derived.Test.YtnioipbofopocaaDoorEe
import Derived.Test.YtnioipbofopocaaDoorSc
import Derived.Deep.DeepCutAuto
namespace Go.Proofs.YtnioipbofopocaaDoor
open Go.RowKit SL
attribute [local go_sem] cell_blk frozen_blk lt_blk cell_at frozen_row lt_row
set_option linter.unusedVariables false
set_option linter.unusedSimpArgs false

/-- A valid error, valid errors. -/
def kindB (x : EC) : Bool :=
  if x.1 = 1 ∨ x.1 = 4 then decide (x.2.2.length = 0)
  else if x.1 = 2 then decide (x.2.2.length = 1)
  else if x.1 = 3 then decide (1 ≤ x.2.2.length) && decide (x.2.1 = 0)
  else false
def partsB (n i : Nat) (l : List Int) : Bool := l.all (fun k => inB k ((i : Int) + 1) ((n : Int) - 1))
def nodeB (n i : Nat) (x : EC) : Bool := kindB x && (inB x.2.1 0 99 && (decide (x.2.2.length ≤ 12) && partsB n i x.2.2))
def nodesB (n : Nat) : Nat → List EC → Bool
  | _, [] => true
  | i, x :: r => nodeB n i x && nodesB n (i + 1) r
def errsB (es : List EC) : Bool := inB es.length 1 12 && nodesB es.length 0 es
theorem nodesB_append (n : Nat) (l m : List EC) : ∀ i, nodesB n i (l ++ m) = (nodesB n i l && nodesB n (i + l.length) m) := by
  induction l with
  | nil => intro i; simp [nodesB]
  | cons x r ih => intro i; simp only [List.cons_append, nodesB, ih, Bool.and_assoc, List.length_cons]; rw [show i + 1 + r.length = i + (r.length + 1) from by omega]
theorem nodesB_take_succ {n : Nat} {l : List EN} {k : Nat} {x : EN} (h : l[k]? = some x) (h0 : nodesB n 0 ((l.take k).map ecOf) = true) (h1 : nodeB n k (ecOf x) = true) : nodesB n 0 ((l.take (k + 1)).map ecOf) = true := by
  have hk := (List.getElem?_eq_some_iff.1 h).1
  rw [take_succ_eq h, List.map_append, nodesB_append, h0, Bool.true_and, List.length_map, List.length_take, Nat.min_eq_left (by omega), Nat.zero_add]
  simp [nodesB, h1]
theorem nodesB_miss {n : Nat} {l : List EN} {k : Nat} {x : EN} (h : l[k]? = some x) (h1 : nodeB n k (ecOf x) = false) : nodesB n 0 (l.map ecOf) = false := by
  have hk := (List.getElem?_eq_some_iff.1 h).1
  have e : l = l.take k ++ x :: l.drop (k + 1) := by
    obtain ⟨hlt', e⟩ := List.getElem?_eq_some_iff.1 h
    rw [← e, ← List.drop_eq_getElem_cons hlt', List.take_append_drop]
  rw [e, List.map_append, nodesB_append, List.map_cons, List.length_map, List.length_take, Nat.min_eq_left (by omega), Nat.zero_add]
  simp [nodesB, h1]

theorem beq_dec0 (m : Nat) : ((m : Int) == 0) = decide (m = 0) := by by_cases h : m = 0 <;> simp [h]
theorem beq_dec1 (m : Nat) : ((m : Int) == 1) = decide (m = 1) := by
  by_cases h : m = 1
  · subst h; rfl
  · have : ¬ (m : Int) = 1 := by omega
    simp [h, this]
theorem beq_decc (m : Int) : (m == 0) = decide (m = 0) := by by_cases h : m = 0 <;> simp [h]
theorem areErrors1 (S : HP) (w : World) [H : SepI w S] (bn be : Nat) (n : Nat) (x : Int) (A : Option Addr) (m c : Nat) (v : Bool) (hn : n ≤ 1048576) (hm : m ≤ 1048576) [HasBlk S bn (.cells #[.int .i64 n] 3 (0, 0))]
    [HasBlk S be (.cells #[.slice A m c] 42 (0, 0))] (hv : inB x ((n : Int) + 1) ((m : Int) - 1) = v) : Calls Tryd.prog 114 #[intV x, .pointer (some ⟨bn, 0, none⟩), .pointer (some ⟨be, 0, none⟩)] w
      fun e w' => e = .returned (.bool (!v)) ∧ Post w S w' := by
  have HV := Hd.mk hv
  clear hv
  unfold intV
  go_enter Tryd.func114, Tryd.ntmps114
  go_wp2_with (go_at_call 40; refine (impl_in _ _ _ _ _ HV.out).mono ?_; rintro e w' ⟨rfl, rfl⟩)
  go_ret
  exact ⟨rfl, Post.mk' inferInstance inferInstance⟩
theorem enters_are : Enters 114 := fun _ _ => by go_simp

set_option maxRecDepth 100000 in
set_option maxHeartbeats 8000000 in
theorem impl_AreErrors (S : HP) (w : World) [H : SepI w S] (A : Option Addr) (c : Nat) (es : List EN) [r : Rd S A (cENs es)] [B : Nodes S es] :
    Calls Tryd.prog 81 #[.agg #[.slice A es.length c]] w fun e w' => e = .returned (.bool (errsB (es.map ecOf))) ∧ Post w S w' := by
  have hmf : ∀ (fn : Fn) (first cap : Array Value) (w : World), (Instr.makeFunc fn first cap).run Tryd.prog w = .ok (.func fn first cap) w := fun _ _ _ _ => rfl
  have hn := B.n
  have HB := Hd.mk B
  clear B
  obtain ⟨n, hn'⟩ : ∃ n, n = es.length := ⟨_, rfl⟩
  have HN := Hd.mk hn'
  rw [← hn'] at hn ⊢
  have hP : errsB (es.map ecOf) = (inB n 1 12 && nodesB n 0 (es.map ecOf)) := by unfold errsB; rw [List.length_map, ← hn']
  rw [hP]
  clear hn' hP
  go_enter Tryd.func81, Tryd.ntmps81
  go_wp2_with fail
  obtain ⟨g, hg⟩ : ∃ g, g = w.heap.size := ⟨_, rfl⟩
  have H1 : SepI (w.alloc (.cells #[.slice A n c] 42)) (pts g (.cells #[.slice A n c] 42 (0, 0)) * S) := by rw [hg]; infer_instance
  rw [← hg]
  have HG := Hd.mk hg
  clear hg
  go_loopw [9] (fun i wr => ∃ k : Nat, k ≤ n ∧ i = .int .i64 k ∧ Hd (nodesB n 0 ((es.take k).map ecOf) = true) ∧ SepI wr (pts g (.cells #[.slice A n c] 42 (0, 0)) * S) ∧ ExtI w wr) (fun i _ => n - (intOf i).toNat)
  case atStart => exact ⟨0, Nat.zero_le _, rfl, ⟨rfl⟩, H1, inferInstance⟩
  case round =>
    obtain ⟨k, hk, rfl, HT, HS, HE⟩ := hrel
    by_cases hlt : k < n
    · obtain ⟨x, hx⟩ := get_ex (xs := es) (k := k) (by rw [← HN.out]; exact hlt)
      obtain ⟨b, off, rfl⟩ := r.addr H (j := k) (by rw [cENs_len, ← HN.out]; omega)
      have c1 := r.cell (cENs_get hx).1
      have c2 := r.cell (cENs_get hx).2.1
      have c3 := r.cell (cENs_get hx).2.2
      have rx := HB.out.rd x (List.mem_of_getElem? hx)
      have sx := HB.out.small x (List.mem_of_getElem? hx)
      have HX := Hd.mk hx
      clear hx
      obtain ⟨m, hm⟩ : ∃ m, m = x.l.length := ⟨_, rfl⟩
      have HM := Hd.mk hm
      rw [← hm] at c3 sx
      clear hm
      obtain ⟨gd, hgd⟩ : ∃ gd, kindB (ecOf x) = gd := ⟨_, rfl⟩
      have HGD := Hd.mk hgd
      clear hgd
      go_upto_block 2 with (fail)
      go_cut [5] (fun v5 wx => v5 = .bool gd ∧ ExtI w wx ∧ SepI wx (pts (wr.heap.size + 1) (.cells #[.int .i64 x.k, .int .i64 x.c, .slice x.p m x.pc] 99 (0, 0)) * (pts wr.heap.size (.cells #[.int .i64 k] 3 (0, 0)) * (pts g (.cells #[.slice (some ⟨b, off, none⟩) n c] 42 (0, 0)) * S))))
      case first =>
        by_cases h1 : x.k = 1
        · have q1 := beq_of h1
          have K1 := Hd.mk h1
          clear h1
          go_wp2
          go_meet
          exact ⟨congrArg Value.bool (by rw [← HGD.out]; simp [kindB, ecOf, ← HM.out, K1.out, beq_dec0]), inferInstance, inferInstance⟩
        have q1 := bne_of h1
        by_cases h4 : x.k = 4
        · have q4 := beq_of h4
          have K4 := Hd.mk h4
          clear h4 h1
          go_wp2
          go_meet
          exact ⟨congrArg Value.bool (by rw [← HGD.out]; simp [kindB, ecOf, ← HM.out, K4.out, beq_dec0]), inferInstance, inferInstance⟩
        have q4 := bne_of h4
        by_cases h2 : x.k = 2
        · have q2 := beq_of h2
          have K2 := Hd.mk h2
          clear h2 h1 h4
          go_wp2
          go_meet
          exact ⟨congrArg Value.bool (by rw [← HGD.out]; simp [kindB, ecOf, ← HM.out, K2.out, beq_dec1]), inferInstance, inferInstance⟩
        have q2 := bne_of h2
        by_cases h3 : x.k = 3
        · have q3 := beq_of h3
          have K3 := Hd.mk h3
          clear h1 h2 h3 h4
          by_cases hm1 : 1 ≤ m
          · go_wp2
            go_meet
            exact ⟨congrArg Value.bool (by rw [← HGD.out]; simp [kindB, ecOf, ← HM.out, K3.out, hm1, beq_decc]), inferInstance, inferInstance⟩
          · have hm0 : m < 1 := by omega
            clear hm1
            go_wp2
            go_meet
            exact ⟨congrArg Value.bool (by rw [← HGD.out]; simp [kindB, ecOf, ← HM.out, K3.out]; try omega), inferInstance, inferInstance⟩
        · have q3 := bne_of h3
          have K := Hd.mk (And.intro h1 (And.intro h2 (And.intro h3 h4)))
          clear h1 h2 h3 h4
          go_wp2
          go_meet
          exact ⟨congrArg Value.bool (by rw [← HGD.out]; simp [kindB, ecOf, K.out.1, K.out.2.1, K.out.2.2.1, K.out.2.2.2]), inferInstance, inferInstance⟩
      case rest =>
        obtain ⟨rfl, HE2, HS2⟩ := hcut
        obtain ⟨ci, hci⟩ : ∃ ci, inB x.c 0 99 = ci := ⟨_, rfl⟩
        obtain ⟨pb, hpb⟩ : ∃ pb, partsB n k x.l = pb := ⟨_, rfl⟩
        have HND : Hd (nodeB n k (ecOf x) = (gd && (ci && (decide (m ≤ 12) && pb)))) := ⟨by show (kindB (ecOf x) && (inB x.c 0 99 && (decide (x.l.length ≤ 12) && partsB n k x.l))) = _; rw [HGD.out, hci, hpb, ← HM.out]⟩
        have HCI := Hd.mk hci
        have HPA : Hd (x.l.any (fun y => !inB y ((k : Int) + 1) ((n : Int) - 1)) = !pb) := ⟨by rw [any_not x.l (fun y => inB y ((k : Int) + 1) ((n : Int) - 1)), ← hpb]; rfl⟩
        clear hci hpb
        have hk2 : k ≤ 1048576 := by omega
        have HPR : Hd (∀ y ∈ x.l, Pred (pts (wr.heap.size + 1) (.cells #[.int .i64 x.k, .int .i64 x.c, .slice x.p m x.pc] 99 (0, 0)) * (pts wr.heap.size (.cells #[.int .i64 k] 3 (0, 0)) * (pts g (.cells #[.slice (some ⟨b, off, none⟩) n c] 42 (0, 0)) * S))) 114 #[.pointer (some ⟨wr.heap.size, 0, none⟩), .pointer (some ⟨g, 0, none⟩)] (intV y) (!inB y ((k : Int) + 1) ((n : Int) - 1))) :=
          ⟨fun y _ W HW => areErrors1 _ W wr.heap.size g k y (some ⟨b, off, none⟩) n c _ hk2 hn rfl⟩
        cases gd
        · have HND' : Hd (nodeB n k (ecOf x) = false) := ⟨by rw [HND.out]; rfl⟩
          go_wp2
          go_ret
          exact ⟨ret_b (by rw [nodesB_miss HX.out HND'.out, Bool.and_false]), Post.mk' (Ent.sep (S := _) inferInstance inferInstance) inferInstance⟩
        cases ci
        · have HND' : Hd (nodeB n k (ecOf x) = false) := ⟨by rw [HND.out]; rfl⟩
          go_wp2_with (go_at_call 40; refine (impl_in _ _ _ _ _ HCI.out).mono ?_; rintro e w' ⟨rfl, rfl⟩)
          go_ret
          exact ⟨ret_b (by rw [nodesB_miss HX.out HND'.out, Bool.and_false]), Post.mk' (Ent.sep (S := _) inferInstance inferInstance) inferInstance⟩
        by_cases h12 : m ≤ 12
        · cases pb
          · have HND' : Hd (nodeB n k (ecOf x) = false) := ⟨by rw [HND.out]; simp⟩
            go_wp2_with (first | (go_at_call 40; refine (impl_in _ _ _ _ _ HCI.out).mono ?_; rintro e w' ⟨rfl, rfl⟩))
            rw [HM.out]
            refine (containsInt _ _ _ _ x.l (by rw [← HM.out]; omega) _ _ _ _ enters_are HPR.out HPA.out).mono ?_
            rintro e w' ⟨rfl, HP⟩
            have HS3 := HP.sep
            have HE3 := HP.ext
            clear HP
            rw [← HM.out]
            go_wp2
            go_ret
            exact ⟨ret_b (by rw [nodesB_miss HX.out HND'.out, Bool.and_false]), Post.mk' (Ent.sep (S := _) inferInstance inferInstance) inferInstance⟩
          · have HND' : Hd (nodeB n k (ecOf x) = true) := ⟨by rw [HND.out]; simp [h12]⟩
            go_wp2_with (first | (go_at_call 40; refine (impl_in _ _ _ _ _ HCI.out).mono ?_; rintro e w' ⟨rfl, rfl⟩))
            rw [HM.out]
            refine (containsInt _ _ _ _ x.l (by rw [← HM.out]; omega) _ _ _ _ enters_are HPR.out HPA.out).mono ?_
            rintro e w' ⟨rfl, HP⟩
            have HS3 := HP.sep
            have HE3 := HP.ext
            clear HP
            rw [← HM.out]
            go_wp2
            go_roundw
            case rel => exact ⟨k + 1, by omega, by go_num, ⟨nodesB_take_succ HX.out HT.out HND'.out⟩, Ent.sep (S := _) inferInstance inferInstance, inferInstance⟩
            case measure => simp [intOf]; omega
        · have HND' : Hd (nodeB n k (ecOf x) = false) := ⟨by rw [HND.out]; simp [h12]⟩
          have h12' : 12 < m := by omega
          clear h12
          go_wp2_with (go_at_call 40; refine (impl_in _ _ _ _ _ HCI.out).mono ?_; rintro e w' ⟨rfl, rfl⟩)
          go_ret
          exact ⟨ret_b (by rw [nodesB_miss HX.out HND'.out, Bool.and_false]), Post.mk' (Ent.sep (S := _) inferInstance inferInstance) inferInstance⟩
    · have : k = n := by omega
      subst this
      cases hi : inB k 1 12
      all_goals
        have HI := Hd.mk hi
        clear hi
        go_wp2_with (go_at_call 40; refine (impl_in _ _ _ _ _ HI.out).mono ?_; rintro e w' ⟨rfl, rfl⟩)
        go_ret
        exact ⟨ret_b (by have := HT.out; rw [HN.out, List.take_length, ← HN.out] at this; rw [this, Bool.and_true]; first | rfl | exact HI.out.symm), Post.mk' (Ent.sep (S := _) inferInstance inferInstance) inferInstance⟩
end Go.Proofs.YtnioipbofopocaaDoor
