/- Errors compared, and marked. Conditions: lengths within bounds. -/
import Derived.Test.YtnioipbofopocaaDoorEa
import Derived.StillTailTactics
namespace Go.Proofs.YtnioipbofopocaaDoor
open Go.RowKit SL
attribute [local go_sem] cell_blk frozen_blk lt_blk cell_at frozen_row lt_row
set_option linter.unusedVariables false
set_option linter.unusedSimpArgs false

theorem eqErrorNode (S : HP) (w : World) [H : SepI w S] (x y : EN) [rx : Rd S x.p (ints x.l)] [ry : Rd S y.p (ints y.l)] (hx : x.l.length ≤ 1048576) (hy : y.l.length ≤ 1048576) :
    Calls Tryd.prog 86 #[.agg #[.int .i64 x.k, .int .i64 x.c, .slice x.p x.l.length x.pc], .agg #[.int .i64 y.k, .int .i64 y.c, .slice y.p y.l.length y.pc]] w fun e w' => e = .returned (.bool (decide (ecOf x = ecOf y))) ∧ Post w S w' := by
  by_cases h1 : x.k = y.k
  · by_cases h2 : x.c = y.c
    · by_cases h3 : x.l = y.l
      · rw [decide_eq_true (show ecOf x = ecOf y by unfold ecOf; rw [h1, h2, h3])]
        have q1 : (x.k == y.k) = true := by simpa using h1
        have q2 : (x.c == y.c) = true := by simpa using h2
        have HD := Hd.mk (decide_eq_true h3)
        clear h1 h2 h3
        go_enter Tryd.func86, Tryd.ntmps86
        go_wp2_with (go_at_call 116; refine (eqIntS _ _ _ _ _ _ x.l y.l (by unfold maxLen; omega) (by unfold maxLen; omega)).mono ?_; rintro e w' ⟨rfl, HP⟩; rw [HD.out]; have HS2 := HP.sep; have HE2 := HP.ext; clear HP)
        go_ret
        exact ⟨rfl, Post.mk' (Ent.sep (S := _) inferInstance inferInstance) inferInstance⟩
      · rw [decide_eq_false (show ¬ ecOf x = ecOf y from fun h => h3 (by injection h with _ h; injection h))]
        have q1 : (x.k == y.k) = true := by simpa using h1
        have q2 : (x.c == y.c) = true := by simpa using h2
        have HD := Hd.mk (decide_eq_false h3)
        clear h1 h2 h3
        go_enter Tryd.func86, Tryd.ntmps86
        go_wp2_with (go_at_call 116; refine (eqIntS _ _ _ _ _ _ x.l y.l (by unfold maxLen; omega) (by unfold maxLen; omega)).mono ?_; rintro e w' ⟨rfl, HP⟩; rw [HD.out]; have HS2 := HP.sep; have HE2 := HP.ext; clear HP)
        go_ret
        exact ⟨rfl, Post.mk' (Ent.sep (S := _) inferInstance inferInstance) inferInstance⟩
    · rw [decide_eq_false (show ¬ ecOf x = ecOf y from fun h => h2 (by injection h with _ h; injection h))]
      have q1 : (x.k == y.k) = true := by simpa using h1
      have q2 : (x.c == y.c) = false := by simpa using h2
      clear h1 h2
      go_enter Tryd.func86, Tryd.ntmps86
      go_wp2
      go_ret
      exact ⟨rfl, Post.mk' (Ent.sep (S := _) inferInstance inferInstance) inferInstance⟩
  · rw [decide_eq_false (show ¬ ecOf x = ecOf y from fun h => h1 (by injection h))]
    have q1 : (x.k == y.k) = false := by simpa using h1
    clear h1
    go_enter Tryd.func86, Tryd.ntmps86
    go_wp2
    go_ret
    exact ⟨rfl, Post.mk' (Ent.sep (S := _) inferInstance inferInstance) inferInstance⟩

set_option maxRecDepth 100000 in
set_option maxHeartbeats 2000000 in
theorem eqErrorNodeS (S : HP) (w : World) [H : SepI w S] (A B : Option Addr) (ca cb : Nat) (xs ys : List EN) [ra : Rd S A (cENs xs)] [rb : Rd S B (cENs ys)] [Bx : Nodes S xs] [By : Nodes S ys] :
    Calls Tryd.prog 58 #[.slice A xs.length ca, .slice B ys.length cb] w fun e w' => e = .returned (.bool (decide (xs.map ecOf = ys.map ecOf))) ∧ Post w S w' := by
  have hx := Bx.n
  have hy := By.n
  have BX := Hd.mk Bx
  have BY := Hd.mk By
  clear Bx By
  by_cases hl : xs.length = ys.length
  · obtain ⟨n, hn⟩ : ∃ n, n = xs.length := ⟨_, rfl⟩
    have hn' : n = ys.length := hn.trans hl
    rw [← hn', ← hn]
    rw [← hn] at hx
    have HN := Hd.mk hn
    have HN' := Hd.mk hn'
    clear hl hn hn' hy
    go_enter Tryd.func58, Tryd.ntmps58
    go_wp2
    go_loopw [5] (fun i wr => ∃ k : Nat, k ≤ n ∧ i = .int .i64 k ∧ Hd ((xs.take k).map ecOf = (ys.take k).map ecOf) ∧ SepI wr S ∧ ExtI w wr) (fun i _ => n - (intOf i).toNat)
    case atStart => exact ⟨0, Nat.zero_le _, rfl, ⟨rfl⟩, inferInstance, inferInstance⟩
    case round =>
      obtain ⟨k, hk, rfl, HT, HS, HE⟩ := hrel
      by_cases hlt : k < n
      · obtain ⟨x, hx'⟩ := get_ex (xs := xs) (k := k) (by rw [← HN.out]; exact hlt)
        obtain ⟨y, hy'⟩ := get_ex (xs := ys) (k := k) (by rw [← HN'.out]; exact hlt)
        obtain ⟨b, off, rfl⟩ := ra.addr H (j := k) (by rw [cENs_len, ← HN.out]; omega)
        obtain ⟨b', off', rfl⟩ := rb.addr H (j := k) (by rw [cENs_len, ← HN'.out]; omega)
        have c1 := ra.cell (cENs_get hx').1
        have c2 := ra.cell (cENs_get hx').2.1
        have c3 := ra.cell (cENs_get hx').2.2
        have c4 := rb.cell (cENs_get hy').1
        have c5 := rb.cell (cENs_get hy').2.1
        have c6 := rb.cell (cENs_get hy').2.2
        have rx := BX.out.rd x (List.mem_of_getElem? hx')
        have sx := BX.out.small x (List.mem_of_getElem? hx')
        have ry := BY.out.rd y (List.mem_of_getElem? hy')
        have sy := BY.out.small y (List.mem_of_getElem? hy')
        have HX := Hd.mk hx'
        have HY := Hd.mk hy'
        clear hx' hy'
        by_cases hxy : ecOf x = ecOf y
        · have HXY := Hd.mk hxy
          clear hxy
          go_wp2
          go_still_tail 8, (by kernel_rfl)
          change wpList _ _ _ _ _ wr.drew
          go_wp2_with (go_at_call 86; refine (eqErrorNode _ _ x y sx sy).mono ?_; rintro e w' ⟨rfl, HP'⟩; rw [decide_eq_true HXY.out]; have HS2 := HP'.sep; have HE2 := HP'.ext; clear HP')
          go_roundw
          case rel => exact ⟨k + 1, by omega, by go_num, ⟨by rw [take_succ_eq HX.out, take_succ_eq HY.out, List.map_append, List.map_append, HT.out, List.map_cons, List.map_cons, HXY.out]⟩, inferInstance, inferInstance⟩
          case measure => simp [intOf]; omega
        · have HXY := Hd.mk hxy
          clear hxy
          go_wp2
          go_still_tail 8, (by kernel_rfl)
          change wpList _ _ _ _ _ wr.drew
          go_wp2_with (go_at_call 86; refine (eqErrorNode _ _ x y sx sy).mono ?_; rintro e w' ⟨rfl, HP'⟩; rw [decide_eq_false HXY.out]; have HS2 := HP'.sep; have HE2 := HP'.ext; clear HP')
          go_ret
          exact ⟨ret_b (decide_eq_false (ne_of_get' (k := k) (x := ecOf x) (y := ecOf y) (by simp [HX.out]) (by simp [HY.out]) HXY.out)).symm, Post.mk' inferInstance inferInstance⟩
      · have : k = n := by omega
        subst this
        go_wp2
        go_ret
        exact ⟨ret_b (decide_eq_true (by have := HT.out; rwa [HN.out, List.take_length, ← HN.out, HN'.out, List.take_length] at this)).symm, Post.mk' inferInstance inferInstance⟩
  · go_enter Tryd.func58, Tryd.ntmps58
    go_wp2
    go_ret
    exact ⟨ret_b (decide_eq_false (fun h => hl (by simpa using congrArg List.length h))).symm, Post.mk' inferInstance inferInstance⟩

theorem eqErrors (S : HP) (w : World) [H : SepI w S] (A B : Option Addr) (ca cb : Nat) (xs ys : List EN) [ra : Rd S A (cENs xs)] [rb : Rd S B (cENs ys)] [Bx : Nodes S xs] [By : Nodes S ys] :
    Calls Tryd.prog 28 #[.agg #[.slice A xs.length ca], .agg #[.slice B ys.length cb]] w fun e w' => e = .returned (.bool (decide (xs.map ecOf = ys.map ecOf))) ∧ Post w S w' := by
  cases hd : decide (xs.map ecOf = ys.map ecOf)
  all_goals
    have HD := Hd.mk hd
    clear hd
    go_enter Tryd.func28, Tryd.ntmps28
    go_wp2_with (go_at_call 58; refine (eqErrorNodeS _ _ _ _ _ _ xs ys).mono ?_; rintro e w' ⟨rfl, HP'⟩; rw [HD.out]; have HS2 := HP'.sep; have HE2 := HP'.ext; clear HP')
    go_ret
    exact ⟨rfl, Post.mk' (Ent.sep (S := _) inferInstance inferInstance) inferInstance⟩

theorem starsE_upd (d r : List EN) (x y : EN) : stars ((d ++ x :: r).map OwnI) = OwnI x * stars ((d ++ r).map OwnI) := by
  rw [List.map_append, List.map_cons, stars_mid, List.map_append]

end Go.Proofs.YtnioipbofopocaaDoor
