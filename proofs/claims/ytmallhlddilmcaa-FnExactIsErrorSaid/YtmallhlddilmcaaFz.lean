/- IsError: the reference's answer. Conditions: lengths within bounds. -/
import Derived.Test.YtmallhlddilmcaaFx
import Derived.Test.YtmallhlddilmcaaFy
import Derived.Test.YtmallhlddilmcaaCy
import Derived.Deep.RegionWith
namespace Go.Proofs.Ytmallhlddilmcaa
open Go.RowKit SL
attribute [local go_sem] cell_blk frozen_blk lt_blk cell_at frozen_row lt_row
set_option linter.unusedVariables false
set_option linter.unusedSimpArgs false

/-- Whether one of the first i errors hits. -/
def hitB (es : List EC) (k t i : Nat) : Bool := (List.range i).any (fun j => (inL es k).getD j false && likeB es t j)
theorem hitB_succ (es : List EC) (k t i : Nat) : hitB es k t (i + 1) = (hitB es k t i || ((inL es k).getD i false && likeB es t i)) := by
  unfold hitB; rw [List.range_succ, List.any_append]; simp
theorem hitB_all {es : List EC} (hv : errsB es = true) {k : Nat} (hk : k < es.length) (t : Nat) : hitB es k t es.length = (found es k).any (likeB es t) := by
  rw [Bool.eq_iff_iff]
  unfold hitB
  rw [List.any_eq_true, List.any_eq_true]
  constructor
  · rintro ⟨j, hj, h⟩
    rw [Bool.and_eq_true, in_found hv hk, List.contains_iff_mem] at h
    exact ⟨j, h.1, h.2⟩
  · rintro ⟨j, hj, h⟩
    have hr := (mem_found hv hk j).1 hj
    refine ⟨j, List.mem_range.2 (hr.lt hv hk), ?_⟩
    rw [Bool.and_eq_true, in_found hv hk, List.contains_iff_mem]
    exact ⟨hj, h⟩
theorem hitB_yes {es : List EC} {k t i n : Nat} (hi : i < n) (h1 : (inL es k).getD i false = true) (h2 : likeB es t i = true) : hitB es k t n = true := by
  unfold hitB; rw [List.any_eq_true]; exact ⟨i, List.mem_range.2 hi, by rw [h1, h2]; rfl⟩
theorem inL_len (es : List EC) (k : Nat) : (inL es k).length = es.length := inS_len es k _

set_option maxRecDepth 100000 in
set_option maxHeartbeats 2000000 in
theorem spec_IsError (S : HP) (w : World) [H : SepI w S] (A : Option Addr) (c : Nat) (es : List EN) [r : Rd S A (cENs es)] [B : Nodes S es] (a b : Int) :
    Calls Try.prog 46 #[.agg #[.slice A es.length c], .int .i64 a, .int .i64 b] w fun e w' => e = two (.bool (isErrAns (es.map ecOf) a b)) (.bool (hasB (es.map ecOf) [a, b])) ∧ Post w S w' := by
  obtain ⟨ok, hok⟩ : ∃ ok, hasB (es.map ecOf) [a, b] = ok := ⟨_, rfl⟩
  have HOK := Hd.mk hok
  rw [hok]
  obtain ⟨o1, ho1⟩ : ∃ o1, hasB (es.map ecOf) [a] = o1 := ⟨_, rfl⟩
  obtain ⟨o2, ho2⟩ : ∃ o2, hasB (es.map ecOf) [b] = o2 := ⟨_, rfl⟩
  rw [hasB_two', ho1, ho2] at hok
  have HO1 := Hd.mk ho1
  have HO2 := Hd.mk ho2
  have hn := B.n
  have HB := Hd.mk B
  clear ho1 ho2
  cases o1
  · subst hok
    have hans : isErrAns (es.map ecOf) a b = false := by unfold isErrAns; rw [HOK.out]; rfl
    rw [hans]
    clear hans
    go_enter Try.func46, Try.ntmps46
    go_wp2_with fail
    refine (spec_l6One _ _ _ _ es _ _ HO1.out).mono ?_
    rintro e w1 ⟨rfl, HP⟩
    have HS1 := HP.sep
    have HE1 := HP.ext
    clear HP
    go_wp2
    go_ret2
    exact ⟨rfl, Post.mk' (Ent.sep (S := _) inferInstance inferInstance) inferInstance⟩
  cases o2
  · subst hok
    have hans : isErrAns (es.map ecOf) a b = false := by unfold isErrAns; rw [HOK.out]; rfl
    rw [hans]
    clear hans
    go_enter Try.func46, Try.ntmps46
    go_wp2_with fail
    refine (spec_l6One _ _ _ _ es _ _ HO1.out).mono ?_
    rintro e w1 ⟨rfl, HP⟩
    have HS1 := HP.sep
    have HE1 := HP.ext
    clear HP
    go_wp2_with fail
    refine (spec_l6One _ _ _ _ es _ _ HO2.out).mono ?_
    rintro e w2 ⟨rfl, HP⟩
    have HS2 := HP.sep
    have HE2 := HP.ext
    clear HP
    go_wp2
    go_ret2
    exact ⟨rfl, Post.mk' (Ent.sep (S := _) inferInstance inferInstance) inferInstance⟩
  · subst hok
    obtain ⟨hv, ⟨k, rfl, hk⟩, t, rfl, ht⟩ := hasB_two HOK.out
    have hall := hitB_all hv hk t
    have hans : isErrAns (es.map ecOf) k t = hitB (es.map ecOf) k t (es.map ecOf).length := by unfold isErrAns; rw [HOK.out, if_pos (by rfl), Int.toNat_natCast, Int.toNat_natCast, hall]
    have htt : (true && true) = true := rfl
    obtain ⟨ans, ha⟩ : ∃ ans, hitB (es.map ecOf) k t (es.map ecOf).length = ans := ⟨_, rfl⟩
    rw [hans, htt, ha]
    obtain ⟨ES, hES⟩ : ∃ ES, ES = es.map ecOf := ⟨_, rfl⟩
    have HES := Hd.mk hES
    have HV := Hd.mk hv
    have hsm := small_of hv
    have HIL : Hd ((inL ES k).length = es.length) := ⟨by rw [hES, inL_len, List.length_map]⟩
    have HNA : Hd (∀ i x, es[i]? = some x → nodeA ES i = ecOf x) := ⟨fun i x hx => by rw [hES]; exact nodeA_of hx⟩
    rw [← hES] at ha
    rw [List.length_map] at hk ht hsm
    have hel : es.length = ES.length := by rw [hES, List.length_map]
    have HEL := Hd.mk hel
    rw [← hel] at ha
    obtain ⟨n, hn'⟩ : ∃ n, n = es.length := ⟨_, rfl⟩
    have HN := Hd.mk hn'
    obtain ⟨y, hy⟩ := get_ex (xs := es) (k := t) ht
    obtain ⟨b0, off, rfl⟩ := r.addr H (j := t) (by rw [cENs_len]; omega)
    have c1 := r.cell (cENs_get hy).1
    have c2 := r.cell (cENs_get hy).2.1
    have c3 := r.cell (cENs_get hy).2.2
    have HY := Hd.mk hy
    rw [← hn'] at ha hk ht hsm
    have HA := Hd.mk ha
    clear hans hv hall ha hES htt hn' hy hel
    go_enter Try.func46, Try.ntmps46
    go_wp2_with fail
    refine (spec_l6One _ _ _ _ es _ _ HO1.out).mono ?_
    rintro e w1 ⟨rfl, HP⟩
    have HS1 := HP.sep
    have HE1 := HP.ext
    clear HP
    go_wp2_with fail
    refine (spec_l6One _ _ _ _ es _ _ HO2.out).mono ?_
    rintro e w2 ⟨rfl, HP⟩
    have HS2 := HP.sep
    have HE2 := HP.ext
    clear HP
    obtain ⟨be, hbe⟩ : ∃ be, be = w.heap.size := ⟨_, rfl⟩
    rw [← hbe] at HS2 ⊢
    clear hbe HS1
    go_upto_region 3 with (fail)
    go_cut [8, 9] (fun v8 v9 wx => ∃ g q : Nat, v8 = .slice (some ⟨g, 0, none⟩) n n ∧ v9 = .pointer (some ⟨q, 0, none⟩) ∧ ExtI w wx ∧ SepI wx (pts q (.cells #[.int .i64 y.k, .int .i64 y.c, .slice y.p y.l.length y.pc] 76 (0, 0)) * (Row 4 1 (.slice (some ⟨g, 0, none⟩) n n) n (bools (inL ES k)) * (pts be (.cells #[.slice (some ⟨b0, off, none⟩) es.length c] 40 (0, 0)) * S))))
    case first =>
      have c2' : CellAt S b0 (off + t * 3 + 1) _ := c2
      have c3' : CellAt S b0 (off + t * 3 + 2) _ := c3
      have ht' : t < es.length := by have := HN.out; omega
      have hk' : k < es.length := by have := HN.out; omega
      go_region_held3 (fun w' => w'.cell? ⟨be, 0, none⟩ = some (.slice (some ⟨b0, off, none⟩) es.length c) ∧ w'.cell? ⟨b0, off + t * 3, none⟩ = some (.int .i64 y.k) ∧ w'.cell? ⟨b0, off + t * 3 + 1, none⟩ = some (.int .i64 y.c) ∧ w'.cell? ⟨b0, off + t * 3 + 2, none⟩ = some (.slice y.p y.l.length y.pc)) (exact ⟨(cell_blk _ _ _ _ _ _ _).trans rfl, cell_at _ _ _ _ _, cell_at _ _ _ _ _, cell_at _ _ _ _ _⟩)
        (first | (go_at_call 79; refine (spec_l6In _ _ _ _ es HV.out k hk').mono ?_; rintro e w' ⟨g, rfl, HP⟩; rw [show es.map ecOf = ES from HES.out.symm] at HP; have HS3 := HP.sep; have HE3 := HP.ext; clear HP))
      all_goals
        go_wp2
        go_meet
        exact ⟨_, _, by rw [HN.out], rfl, inferInstance, by
          rw [HN.out]
          first
          | exact Ent.sep (S := _) inferInstance inferInstance
          | exact SepI.cast (Ent.sep (S := _) (T := pts w2.heap.size (.cells (((#[.int .i64 0, .int .i64 0, .slice none 0 0] : Array Value).setIfInBounds 0 (.int .i64 y.k)).setIfInBounds 1 (.int .i64 y.c) |>.setIfInBounds 2 (.slice y.p y.l.length y.pc)) 76 (0, 0)) * (Row 4 1 (.slice (some ⟨g, 0, none⟩) es.length es.length) es.length (bools (inL ES k)) * (pts be (.cells #[.slice (some ⟨b0, off, none⟩) es.length c] 40 (0, 0)) * S))) inferInstance inferInstance) rfl⟩
    case rest =>
      obtain ⟨g, q, rfl, rfl, HE3, HS3⟩ := hcut
      go_wp2
      go_loopw [10] (fun v wr => ∃ i : Nat, i ≤ n ∧ v = .int .i64 i ∧ Hd (hitB ES k t i = false) ∧ ExtI w wr ∧ SepI wr (pts q (.cells #[.int .i64 y.k, .int .i64 y.c, .slice y.p y.l.length y.pc] 76 (0, 0)) * (Row 4 1 (.slice (some ⟨g, 0, none⟩) n n) n (bools (inL ES k)) * (pts be (.cells #[.slice (some ⟨b0, off, none⟩) es.length c] 40 (0, 0)) * S)))) (fun v _ => n - (intOf v).toNat)
      case atStart => exact ⟨0, Nat.zero_le _, rfl, ⟨rfl⟩, inferInstance, inferInstance⟩
      case round =>
        obtain ⟨i, hi, rfl, HT, HX, HS4⟩ := hrel
        by_cases hlt : i < n
        · have hlt' : i < es.length := by have := HN.out; omega
          obtain ⟨x, hx⟩ := get_ex (xs := es) (k := i) hlt'
          have f1 := r.cell (cENs_get hx).1
          have f2 := r.cell (cENs_get hx).2.1
          obtain ⟨gi, hgi⟩ := get_ex (xs := inL ES k) (k := i) (by rw [HIL.out]; exact hlt')
          have HGI := Hd.mk (getDB hgi)
          obtain ⟨lk, hlk⟩ : ∃ lk, (x.k == 4 && (y.k == 1 && x.c == y.c)) = lk := ⟨_, rfl⟩
          have HLK := Hd.mk hlk
          have HLB : Hd (likeB ES t i = (((i : Int) == (t : Int)) || lk)) := ⟨by unfold likeB; rw [HNA.out i x hx, HNA.out t y HY.out, ← hlk]; rfl⟩
          clear hx hlk
          have d1 : CellAt _ g i (.bool gi) := Row.cellAt (e := 4) (size := 1) (g := g) (n := n) (c := n) (F := pts be (.cells #[.slice (some ⟨b0, off, none⟩) es.length c] 40 (0, 0)) * S) (bools_get hgi)
          clear hgi
          go_upto_region 7 with (fail)
          go_cut [11] (fun v11 wx => v11 = .bool lk ∧ ExtI w wx ∧ SepI wx (pts q (.cells #[.int .i64 y.k, .int .i64 y.c, .slice y.p y.l.length y.pc] 76 (0, 0)) * (Row 4 1 (.slice (some ⟨g, 0, none⟩) n n) n (bools (inL ES k)) * (pts be (.cells #[.slice (some ⟨b0, off, none⟩) es.length c] 40 (0, 0)) * S))))
          case first =>
            cases hb1 : (x.k == 4)
            · go_wp2
              go_quiet (fail)
              go_wp2
              go_meet
              exact ⟨congrArg Value.bool (by rw [← HLK.out, hb1]; rfl), inferInstance, inferInstance⟩
            · cases hb2 : (y.k == 1)
              · go_wp2
                go_quiet (fail)
                go_wp2
                go_meet
                exact ⟨congrArg Value.bool (by rw [← HLK.out, hb1, hb2]; rfl), inferInstance, inferInstance⟩
              · go_wp2
                go_quiet (fail)
                go_wp2
                go_meet
                exact ⟨congrArg Value.bool (by rw [← HLK.out, hb1, hb2]; rfl), inferInstance, inferInstance⟩
          case rest =>
            obtain ⟨rfl, HX5, HS5⟩ := hcut
            cases gi
            · go_wp2
              go_roundw
              case rel => exact ⟨i + 1, by omega, by go_num, ⟨by rw [hitB_succ, HT.out, HGI.out]; rfl⟩, inferInstance, inferInstance⟩
              case measure => (simp [intOf]; try omega)
            · cases hit : ((i : Int) == (t : Int))
              · cases lk
                · go_wp2
                  go_roundw
                  case rel => exact ⟨i + 1, by omega, by go_num, ⟨by rw [hitB_succ, HT.out, HLB.out, hit, Bool.or_false, Bool.and_false]; rfl⟩, inferInstance, inferInstance⟩
                  case measure => (simp [intOf]; try omega)
                · go_wp2
                  go_ret2
                  exact ⟨by rw [show ans = true from by rw [← HA.out]; exact hitB_yes hlt HGI.out (by rw [HLB.out, Bool.or_true])]; rfl, Post.mk' (Ent.sep (S := _) inferInstance inferInstance) inferInstance⟩
              · go_wp2
                go_ret2
                exact ⟨by rw [show ans = true from by rw [← HA.out]; exact hitB_yes hlt HGI.out (by rw [HLB.out, hit, Bool.true_or])]; rfl, Post.mk' (Ent.sep (S := _) inferInstance inferInstance) inferInstance⟩
        · have : i = n := by omega
          subst this
          go_wp2
          go_ret2
          exact ⟨by rw [show ans = false from by rw [← HA.out]; exact HT.out]; rfl, Post.mk' (Ent.sep (S := _) inferInstance inferInstance) inferInstance⟩
end Go.Proofs.Ytmallhlddilmcaa
