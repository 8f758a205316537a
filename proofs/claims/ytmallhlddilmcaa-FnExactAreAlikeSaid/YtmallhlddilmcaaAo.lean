/- AreAlike: the reference's classes. Conditions: lengths within bounds. -/
import Derived.Test.YtmallhlddilmcaaAn
namespace Go.Proofs.Ytmallhlddilmcaa
open Go.RowKit SL
attribute [local go_sem] cell_blk frozen_blk lt_blk cell_at frozen_row lt_row
set_option linter.unusedVariables false
set_option linter.unusedSimpArgs false

theorem eq2_stop {p : Int → Int → Bool} {xs ys : List Int} {k : Nat} (hl : xs.length = ys.length) (hk : k ≤ xs.length) (h : eq2 p (xs.take k) (ys.take k) = false) : eq2 p xs ys = false := by
  have key : ∀ (k : Nat) (xs ys : List Int), eq2 p (xs.take k) (ys.take k) = false → xs.length = ys.length → eq2 p xs ys = false := by
    intro k
    induction k with
    | zero => intro xs ys h _; simp [eq2] at h
    | succ k ih =>
      intro xs ys h hl
      cases xs with
      | nil => cases ys with
        | nil => simp [eq2] at h
        | cons y ys => cases hl
      | cons x xs => cases ys with
        | nil => cases hl
        | cons y ys =>
          rw [List.take_succ_cons, List.take_succ_cons, eq2, Bool.and_eq_false_iff] at h
          rw [eq2, Bool.and_eq_false_iff]
          rcases h with h | h
          · exact .inl h
          · exact .inr (ih _ _ h (by simpa using hl))
  exact key k xs ys h hl
/-- The reference's test. -/
abbrev repB (es : List EC) (known : List Int) (k j : Nat) : Bool := known.getD j 0 == (j : Int) && alikeB known (nodeAt es k) (nodeAt es j)
theorem repB_of {es : List EN} {known : List Int} {k j : Nat} {x y : EN} {u : Int} (hx : es[k]? = some x) (hy : es[j]? = some y) (hu : known[j]? = some u) :
    repB (es.map ecOf) known k j = ((u == (j : Int)) && (x.k == y.k && (x.c == y.c && eq2 (eqAt known) x.l y.l))) := by
  unfold repB
  rw [nodeAt_of hx, nodeAt_of hy, getD_of hu]; rfl

set_option maxRecDepth 100000 in
set_option maxHeartbeats 16000000 in
theorem spec_l6Classes (S : HP) (w : World) [H : SepI w S] (A : Option Addr) (c : Nat) (es : List EN) [r : Rd S A (cENs es)] [B : Nodes S es] (hv : errsB (es.map ecOf) = true) :
    Calls Try.prog 82 #[.agg #[.slice A es.length c]] w fun e w' => ∃ b, e = .returned (.slice (some ⟨b, 0, none⟩) es.length es.length) ∧ Post w (Row 3 1 (.slice (some ⟨b, 0, none⟩) es.length es.length) es.length (ints (clss (es.map ecOf))) * S) w' := by
  have HV := Hd.mk hv
  have HB := Hd.mk B
  have hs := small_of hv
  rw [List.length_map] at hs
  obtain ⟨ES, hES⟩ : ∃ ES, ES = es.map ecOf := ⟨_, rfl⟩
  have HES := Hd.mk hES
  have hel : es.length = ES.length := by rw [hES, List.length_map]
  have HEL := Hd.mk hel
  obtain ⟨n, hn⟩ : ∃ n, n = es.length := ⟨_, rfl⟩
  have HN := Hd.mk hn
  rw [← hES]
  rw [← hn] at hs ⊢
  clear hv B hES hel
  go_enter Try.func82, Try.ntmps82
  obtain ⟨be, hbe⟩ : ∃ be, be = w.heap.size := ⟨_, rfl⟩
  clear hn
  go_wp2_with (refine ev_make rfl 62 _ _ rfl n rfl rfl 3 1 8 _ Try.underlying62 info_int rfl (by decide) (by decide) (by omega) ?_; rw [ints_zeros]; intro b w2 HS2 HE2)
  rw [← hbe] at HS2 ⊢
  clear hbe
  go_loopw [4] (fun i wr => ∃ (q : Nat), q ≤ n ∧ i = .int .i64 ((q : Int) - 1) ∧ ExtI w wr ∧
    SepI wr (Row 3 1 (.slice (some ⟨b, 0, none⟩) n n) n (ints (tabF n (clsE ES) (n - q))) * (pts be (.cells #[.slice A n c] 40 (0, 0)) * S))) (fun i _ => (intOf i + 1).toNat)
  case atStart => exact ⟨n, Nat.le_refl _, by go_num, inferInstance, by rw [Nat.sub_self]; exact HS2⟩
  case round =>
    obtain ⟨q, hq, rfl, HX, HS⟩ := hrel
    by_cases hlt : 0 < q
    · obtain ⟨i, rfl⟩ : ∃ i, q = i + 1 := ⟨q - 1, by omega⟩
      have e1 : ((i + 1 : Nat) : Int) - 1 = i := by omega
      rw [e1]
      obtain ⟨known, hkn⟩ : ∃ known, known = tabF n (clsE ES) (n - (i + 1)) := ⟨_, rfl⟩
      rw [← hkn] at HS
      have HKN := Hd.mk hkn
      have HLN : Hd (known.length = n) := ⟨by rw [hkn, tabF_len]⟩
      clear hkn e1
      have hin : i < n := by omega
      obtain ⟨x, hx⟩ := get_ex (xs := es) (k := i) (by rw [← HN.out]; omega)
      obtain ⟨b0, off, rfl⟩ := r.addr H (j := i) (by rw [cENs_len, ← HN.out]; omega)
      have c1 := r.cell (cENs_get hx).1
      have c2 := r.cell (cENs_get hx).2.1
      have c3 := r.cell (cENs_get hx).2.2
      have rx := HB.out.rd x (List.mem_of_getElem? hx)
      have sx := HB.out.small x (List.mem_of_getElem? hx)
      obtain ⟨z, hz⟩ := get_ex (xs := known) (k := i) (by rw [HLN.out]; omega)
      have d1 : CellAt _ b _ _ := Row.cellAt (e := 3) (size := 1) (g := b) (n := n) (c := n) (F := pts be (.cells #[.slice (some ⟨b0, off, none⟩) n c] 40 (0, 0)) * S) (ints_get hz)
      have HXX := Hd.mk hx
      have HCLS : Hd (clsE ES i known = ((firstK (repB ES known i) i n).getD i : Nat)) := ⟨by
        have := cls_rep (es := ES) (by rw [HES.out]; exact HV.out) (k := i) (by rw [← HEL.out, ← HN.out]; exact hin)
        unfold knowns at this
        rw [← HEL.out, ← HN.out, show tabF n (clsE ES) (n - (i + 1)) = known from HKN.out.symm] at this
        exact this⟩
      obtain ⟨m, hm⟩ : ∃ m, m = x.l.length := ⟨_, rfl⟩
      obtain ⟨p, hp⟩ : ∃ p, p = x.p := ⟨_, rfl⟩
      have HM := Hd.mk hm
      have HPX := Hd.mk hp
      rw [← hp] at rx
      rw [← hp, ← hm] at c3
      rw [← hm] at sx
      clear hx hz hm hp
      go_wp2
      go_loopw [5] (fun v wq => ∃ (j : Nat) (u : Int), i < j ∧ j ≤ n ∧ v = .int .i64 ((j : Int) - 1) ∧ ExtI w wq ∧ Hd ((u = i ∧ firstK (repB ES known i) i n = firstK (repB ES known i) i j) ∨ (u ≠ i ∧ u = ((firstK (repB ES known i) i n).getD i : Nat))) ∧
        SepI wq (Row 3 1 (.slice (some ⟨b, 0, none⟩) n n) n (ints (known.set i u)) * (pts be (.cells #[.slice (some ⟨b0, off, none⟩) n c] 40 (0, 0)) * S))) (fun v _ => (intOf v + 1).toNat)
      case atStart => exact ⟨n, (i : Int), hin, Nat.le_refl _, by go_num, inferInstance, ⟨.inl ⟨rfl, rfl⟩⟩, SepI.cast inferInstance (by rw [ints_set])⟩
      case round =>
        obtain ⟨j, u, hij, hj, rfl, HX2, HF, HS3⟩ := hrel
        obtain ⟨k, rfl⟩ : ∃ k, j = k + 1 := ⟨j - 1, by omega⟩
        have e1 : ((k + 1 : Nat) : Int) - 1 = k := by omega
        rw [e1]
        clear e1 d1
        have hgi : (known.set i u)[i]? = some u := by rw [List.getElem?_set_self (by rw [HLN.out]; omega)]
        have d2 : CellAt _ b _ _ := Row.cellAt (e := 3) (size := 1) (g := b) (n := n) (c := n) (F := pts be (.cells #[.slice (some ⟨b0, off, none⟩) n c] 40 (0, 0)) * S) (ints_get hgi)
        clear hgi
        by_cases hki : i < k
        · by_cases hu : u = i
          · subst hu
            obtain ⟨y, hy⟩ := get_ex (xs := es) (k := k) (by rw [← HN.out]; omega)
            have hkn' : k < n := by omega
            have f1 := r.cell (cENs_get hy).1
            have f2 := r.cell (cENs_get hy).2.1
            have f3 := r.cell (cENs_get hy).2.2
            have ry := HB.out.rd y (List.mem_of_getElem? hy)
            have sy := HB.out.small y (List.mem_of_getElem? hy)
            obtain ⟨v, hv⟩ := get_ex (xs := known) (k := k) (by rw [HLN.out]; omega)
            have hv3 : (known.set i i)[k]? = some v := by rw [List.getElem?_set_ne (by omega)]; exact hv
            have d3 : CellAt _ b _ _ := Row.cellAt (e := 3) (size := 1) (g := b) (n := n) (c := n) (F := pts be (.cells #[.slice (some ⟨b0, off, none⟩) n c] 40 (0, 0)) * S) (ints_get hv3)
            have HQ : Hd (repB ES known i k = ((v == (k : Int)) && (x.k == y.k && (x.c == y.c && eq2 (eqAt known) x.l y.l)))) := ⟨by rw [HES.out]; exact repB_of HXX.out hy hv⟩
            have HY := Hd.mk hy
            obtain ⟨my, hmy⟩ : ∃ my, my = y.l.length := ⟨_, rfl⟩
            obtain ⟨py, hpy⟩ : ∃ py, py = y.p := ⟨_, rfl⟩
            have HMY := Hd.mk hmy
            have HPY := Hd.mk hpy
            rw [← hpy] at ry
            rw [← hpy, ← hmy] at f3
            rw [← hmy] at sy
            clear hv hv3 hy hmy hpy
            go_upto_region 9 with (fail)
            go_cut [6, 7] (fun v6 v7 wx => ∃ N6 N7 : Nat, v6 = .pointer (some ⟨N6, 0, none⟩) ∧ v7 = .pointer (some ⟨N7, 0, none⟩) ∧ ExtI w wx ∧ SepI wx (pts N6 (.cells #[.int .i64 x.k, .int .i64 x.c, .slice p m x.pc] 76 (0, 0)) * (pts N7 (.cells #[.int .i64 y.k, .int .i64 y.c, .slice py my y.pc] 76 (0, 0)) * (Row 3 1 (.slice (some ⟨b, 0, none⟩) n n) n (ints (known.set i i)) * (pts be (.cells #[.slice (some ⟨b0, off, none⟩) n c] 40 (0, 0)) * S)))))
            case first =>
              have c2' : CellAt S b0 (off + i * 3 + 1) _ := c2
              have c3' : CellAt S b0 (off + i * 3 + 2) _ := c3
              have f2' : CellAt S b0 (off + k * 3 + 1) _ := f2
              have f3' : CellAt S b0 (off + k * 3 + 2) _ := f3
              go_region_held3 (fun w' => w'.cell? ⟨be, 0, none⟩ = some (.slice (some ⟨b0, off, none⟩) n c) ∧ w'.cell? ⟨b0, off + i * 3, none⟩ = some (.int .i64 x.k) ∧ w'.cell? ⟨b0, off + i * 3 + 1, none⟩ = some (.int .i64 x.c) ∧ w'.cell? ⟨b0, off + i * 3 + 2, none⟩ = some (.slice p m x.pc) ∧
                w'.cell? ⟨b0, off + k * 3, none⟩ = some (.int .i64 y.k) ∧ w'.cell? ⟨b0, off + k * 3 + 1, none⟩ = some (.int .i64 y.c) ∧ w'.cell? ⟨b0, off + k * 3 + 2, none⟩ = some (.slice py my y.pc)) (exact ⟨(cell_blk _ _ _ _ _ _ _).trans rfl, cell_at _ _ _ _ _, cell_at _ _ _ _ _, cell_at _ _ _ _ _, cell_at _ _ _ _ _, cell_at _ _ _ _ _, cell_at _ _ _ _ _⟩) (fail)
              all_goals
                go_wp2
                go_meet
                exact ⟨_, _, rfl, rfl, inferInstance, Ent.sep (S := _) inferInstance inferInstance⟩
            case rest =>
              obtain ⟨N6, N7, rfl, rfl, HE4, HS4⟩ := hcut
              have hcases : (v == (k : Int)) = false ∨ ((v == (k : Int)) = true ∧ (x.k == y.k) = false) ∨ ((v == (k : Int)) = true ∧ (x.k == y.k) = true ∧ (x.c == y.c) = false) ∨ ((v == (k : Int)) = true ∧ (x.k == y.k) = true ∧ (x.c == y.c) = true ∧ ¬ m = my) ∨ ((v == (k : Int)) = true ∧ (x.k == y.k) = true ∧ (x.c == y.c) = true ∧ m = my) := by
                cases (v == (k : Int)) <;> cases (x.k == y.k) <;> cases (x.c == y.c) <;> simp <;> omega
              rcases hcases with h1 | ⟨h1, h2⟩ | ⟨h1, h2, h3⟩ | ⟨h1, h2, h3, h4⟩ | ⟨h1, h2, h3, h4⟩
              case inl =>
                have HR : Hd (repB ES known i k = false) := ⟨by rw [HQ.out]; rw [h1]; rfl⟩
                go_wp2
                go_loopw [8, 9] (fun s q wz => s = .bool false ∧ q = .int .i64 0 ∧ ExtI w wz ∧ SepI wz (pts N6 (.cells #[.int .i64 x.k, .int .i64 x.c, .slice p m x.pc] 76 (0, 0)) * (pts N7 (.cells #[.int .i64 y.k, .int .i64 y.c, .slice py my y.pc] 76 (0, 0)) * (Row 3 1 (.slice (some ⟨b, 0, none⟩) n n) n (ints (known.set i i)) * (pts be (.cells #[.slice (some ⟨b0, off, none⟩) n c] 40 (0, 0)) * S))))) (fun _ _ _ => 0)
                case atStart => exact ⟨rfl, rfl, inferInstance, inferInstance⟩
                case round =>
                  obtain ⟨rfl, rfl, HE5, HS5⟩ := hrel
                  go_wp2
                  all_goals
                    go_roundw
                    case rel =>
                      exact ⟨k, (i : Int), by omega, by omega, by go_num, inferInstance, ⟨.inl ⟨rfl, by
                        rcases HF.out with h | h
                        · rw [h.2, firstK_miss hki HR.out]
                        · exact absurd rfl h.1⟩⟩, Ent.sep (S := _) inferInstance inferInstance⟩
                    case measure => (simp [intOf]; try omega)
              case inr.inl =>
                have HR : Hd (repB ES known i k = false) := ⟨by rw [HQ.out]; rw [h1, h2]; rfl⟩
                go_wp2
                go_loopw [8, 9] (fun s q wz => s = .bool false ∧ q = .int .i64 0 ∧ ExtI w wz ∧ SepI wz (pts N6 (.cells #[.int .i64 x.k, .int .i64 x.c, .slice p m x.pc] 76 (0, 0)) * (pts N7 (.cells #[.int .i64 y.k, .int .i64 y.c, .slice py my y.pc] 76 (0, 0)) * (Row 3 1 (.slice (some ⟨b, 0, none⟩) n n) n (ints (known.set i i)) * (pts be (.cells #[.slice (some ⟨b0, off, none⟩) n c] 40 (0, 0)) * S))))) (fun _ _ _ => 0)
                case atStart => exact ⟨rfl, rfl, inferInstance, inferInstance⟩
                case round =>
                  obtain ⟨rfl, rfl, HE5, HS5⟩ := hrel
                  go_wp2
                  all_goals
                    go_roundw
                    case rel =>
                      exact ⟨k, (i : Int), by omega, by omega, by go_num, inferInstance, ⟨.inl ⟨rfl, by
                        rcases HF.out with h | h
                        · rw [h.2, firstK_miss hki HR.out]
                        · exact absurd rfl h.1⟩⟩, Ent.sep (S := _) inferInstance inferInstance⟩
                    case measure => (simp [intOf]; try omega)
              case inr.inr.inl =>
                have HR : Hd (repB ES known i k = false) := ⟨by rw [HQ.out]; rw [h1, h2, h3]; rfl⟩
                go_wp2
                go_loopw [8, 9] (fun s q wz => s = .bool false ∧ q = .int .i64 0 ∧ ExtI w wz ∧ SepI wz (pts N6 (.cells #[.int .i64 x.k, .int .i64 x.c, .slice p m x.pc] 76 (0, 0)) * (pts N7 (.cells #[.int .i64 y.k, .int .i64 y.c, .slice py my y.pc] 76 (0, 0)) * (Row 3 1 (.slice (some ⟨b, 0, none⟩) n n) n (ints (known.set i i)) * (pts be (.cells #[.slice (some ⟨b0, off, none⟩) n c] 40 (0, 0)) * S))))) (fun _ _ _ => 0)
                case atStart => exact ⟨rfl, rfl, inferInstance, inferInstance⟩
                case round =>
                  obtain ⟨rfl, rfl, HE5, HS5⟩ := hrel
                  go_wp2
                  all_goals
                    go_roundw
                    case rel =>
                      exact ⟨k, (i : Int), by omega, by omega, by go_num, inferInstance, ⟨.inl ⟨rfl, by
                        rcases HF.out with h | h
                        · rw [h.2, firstK_miss hki HR.out]
                        · exact absurd rfl h.1⟩⟩, Ent.sep (S := _) inferInstance inferInstance⟩
                    case measure => (simp [intOf]; try omega)
              case inr.inr.inr.inl =>
                have hb4 : ((m : Int) == (my : Int)) = false := by simp; omega
                have H4 := Hd.mk h4
                clear h4
                have HR : Hd (repB ES known i k = false) := ⟨by rw [HQ.out]; rw [h1, h2, h3, eq2_len (by rw [← HM.out, ← HMY.out]; exact H4.out)]; rfl⟩
                go_wp2
                go_loopw [8, 9] (fun s q wz => s = .bool false ∧ q = .int .i64 0 ∧ ExtI w wz ∧ SepI wz (pts N6 (.cells #[.int .i64 x.k, .int .i64 x.c, .slice p m x.pc] 76 (0, 0)) * (pts N7 (.cells #[.int .i64 y.k, .int .i64 y.c, .slice py my y.pc] 76 (0, 0)) * (Row 3 1 (.slice (some ⟨b, 0, none⟩) n n) n (ints (known.set i i)) * (pts be (.cells #[.slice (some ⟨b0, off, none⟩) n c] 40 (0, 0)) * S))))) (fun _ _ _ => 0)
                case atStart => exact ⟨rfl, rfl, inferInstance, inferInstance⟩
                case round =>
                  obtain ⟨rfl, rfl, HE5, HS5⟩ := hrel
                  go_wp2
                  all_goals
                    go_roundw
                    case rel =>
                      exact ⟨k, (i : Int), by omega, by omega, by go_num, inferInstance, ⟨.inl ⟨rfl, by
                        rcases HF.out with h | h
                        · rw [h.2, firstK_miss hki HR.out]
                        · exact absurd rfl h.1⟩⟩, Ent.sep (S := _) inferInstance inferInstance⟩
                    case measure => (simp [intOf]; try omega)
              case inr.inr.inr.inr =>
                subst h4
                have HR : Hd (repB ES known i k = eq2 (eqAt known) x.l y.l) := ⟨by rw [HQ.out, h1, h2, h3]; rfl⟩
                have HLL : Hd (x.l.length = y.l.length) := ⟨by rw [← HM.out, ← HMY.out]⟩
                go_wp2
                go_loopw [8, 9] (fun s q wz => ∃ (t : Nat) (g : Bool), t ≤ m ∧ q = .int .i64 t ∧ s = .bool g ∧ Hd (g = eq2 (eqAt known) (x.l.take t) (y.l.take t)) ∧ ExtI w wz ∧ SepI wz (pts N6 (.cells #[.int .i64 x.k, .int .i64 x.c, .slice p m x.pc] 76 (0, 0)) * (pts N7 (.cells #[.int .i64 y.k, .int .i64 y.c, .slice py m y.pc] 76 (0, 0)) * (Row 3 1 (.slice (some ⟨b, 0, none⟩) n n) n (ints (known.set i i)) * (pts be (.cells #[.slice (some ⟨b0, off, none⟩) n c] 40 (0, 0)) * S))))) (fun _ q _ => m - (intOf q).toNat)
                case atStart => exact ⟨0, true, Nat.zero_le _, rfl, rfl, ⟨rfl⟩, inferInstance, inferInstance⟩
                case round =>
                  obtain ⟨t, g, ht, rfl, rfl, HG, HE5, HS5⟩ := hrel
                  cases g
                  · have HR2 : Hd (repB ES known i k = false) := ⟨by rw [HR.out]; exact eq2_stop HLL.out (by rw [← HM.out]; exact ht) HG.out.symm⟩
                    go_wp2
                    all_goals
                      go_roundw
                      case rel =>
                        exact ⟨k, (i : Int), by omega, by omega, by go_num, inferInstance, ⟨.inl ⟨rfl, by
                          rcases HF.out with h | h
                          · rw [h.2, firstK_miss hki HR2.out]
                          · exact absurd rfl h.1⟩⟩, Ent.sep (S := _) inferInstance inferInstance⟩
                      case measure => (simp [intOf]; try omega)
                  · by_cases htm : t < m
                    · obtain ⟨p1, hp1⟩ := get_ex (xs := x.l) (k := t) (by rw [← HM.out]; exact htm)
                      obtain ⟨p2, hp2⟩ := get_ex (xs := y.l) (k := t) (by rw [← HMY.out]; exact htm)
                      obtain ⟨q1, rfl, hq1, hq1'⟩ := part_at HV.out (k := i) (x := ecOf x) (by rw [List.getElem?_map, HXX.out]; rfl) hp1
                      obtain ⟨q2, rfl, hq2, hq2'⟩ := part_at HV.out (k := k) (x := ecOf y) (by rw [List.getElem?_map, HY.out]; rfl) hp2
                      rw [List.length_map, ← HN.out] at hq1' hq2'
                      obtain ⟨bx, ox, rfl⟩ := rx.addr H (j := t) (by rw [ints_len, ← HM.out]; omega)
                      obtain ⟨bY, oY, rfl⟩ := ry.addr H (j := t) (by rw [ints_len, ← HMY.out]; omega)
                      have a1 := rx.cell (ints_get hp1)
                      have a2 := ry.cell (ints_get hp2)
                      obtain ⟨u1, hu1⟩ := get_ex (xs := known) (k := q1) (by rw [HLN.out]; exact hq1')
                      obtain ⟨u2, hu2⟩ := get_ex (xs := known) (k := q2) (by rw [HLN.out]; exact hq2')
                      have hu1' : (known.set i i)[q1]? = some u1 := by rw [List.getElem?_set_ne (by omega)]; exact hu1
                      have hu2' : (known.set i i)[q2]? = some u2 := by rw [List.getElem?_set_ne (by omega)]; exact hu2
                      have g1 : CellAt _ b _ _ := Row.cellAt (e := 3) (size := 1) (g := b) (n := n) (c := n) (F := pts be (.cells #[.slice (some ⟨b0, off, none⟩) n c] 40 (0, 0)) * S) (ints_get hu1')
                      have g2 : CellAt _ b _ _ := Row.cellAt (e := 3) (size := 1) (g := b) (n := n) (c := n) (F := pts be (.cells #[.slice (some ⟨b0, off, none⟩) n c] 40 (0, 0)) * S) (ints_get hu2')
                      have HT2 := Hd.mk (eq2_take (p := eqAt known) HLL.out hp1 hp2)
                      have HE12 : Hd (eqAt known q1 q2 = (u1 == u2)) := ⟨by unfold eqAt; rw [Int.toNat_natCast, Int.toNat_natCast, getD_of hu1, getD_of hu2]⟩
                      clear hp1 hp2 hu1 hu2 hu1' hu2'
                      go_wp2
                      go_quiet (fail)
                      go_wp2
                      go_roundw
                      case rel => exact ⟨t + 1, (u1 == u2), by omega, by go_num, by simp, ⟨by rw [HT2.out, ← HG.out, HE12.out]; rfl⟩, inferInstance, inferInstance⟩
                      case measure => (simp [intOf]; try omega)
                    · have : t = m := by omega
                      subst this
                      have HR2 : Hd (repB ES known i k = true) := ⟨by
                        rw [HR.out]
                        have := HG.out
                        rw [HM.out, List.take_length, ← HM.out, HMY.out, List.take_length] at this
                        exact this.symm⟩
                      go_wp2
                      go_roundw
                      case rel =>
                        exact ⟨k, (k : Int), by omega, by omega, by go_num, inferInstance, ⟨.inr ⟨by omega, by
                          rcases HF.out with h | h
                          · rw [h.2, firstK_hit hki HR2.out]; rfl
                          · exact absurd rfl h.1⟩⟩, SepI.cast (Ent.sep (S := _) (T := Row 3 1 (.slice (some ⟨b, 0, none⟩) n n) n ((ints (known.set i i)).set i (.int .i64 k)) * (pts be (.cells #[.slice (some ⟨b0, off, none⟩) n c] 40 (0, 0)) * S)) inferInstance inferInstance) (by rw [ints_set, List.set_set])⟩
                      case measure => (simp [intOf]; try omega)
          · have hbu := bne_of hu
            have HU := Hd.mk hu
            clear hu
            go_wp2
            go_roundw
            case rel => exact ⟨i, by omega, by go_num, inferInstance, SepI.cast inferInstance (by
              rw [tabF_next _ (by omega), ← HKN.out, HCLS.out]
              rcases HF.out with h | h
              · exact absurd h.1 HU.out
              · rw [← h.2])⟩
            case measure => simp [intOf]
        · have : k = i := by omega
          subst this
          go_wp2
          go_roundw
          case rel => exact ⟨k, by omega, by go_num, inferInstance, SepI.cast inferInstance (by
            rw [tabF_next _ (by omega), ← HKN.out, HCLS.out]
            rcases HF.out with h | h
            · rw [h.2, firstK_none]; rw [h.1]; rfl
            · rw [← h.2])⟩
          case measure => simp [intOf]
    · have : q = 0 := by omega
      subst this
      go_wp2
      go_ret
      exact ⟨b, rfl, Post.mk' (SepI.cast (Ent.sep (S := _) (T := Row 3 1 (.slice (some ⟨b, 0, none⟩) n n) n (ints (tabF n (clsE ES) (n - 0))) * S) inferInstance inferInstance) (by rw [Nat.sub_zero]; unfold clss; rw [← HEL.out, ← HN.out])) inferInstance⟩
end Go.Proofs.Ytmallhlddilmcaa
