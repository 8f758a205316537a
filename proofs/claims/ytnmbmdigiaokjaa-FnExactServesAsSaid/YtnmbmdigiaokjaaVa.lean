/- ServesAs: in whose walk there is an error of a kind, by the reference's l6Kinds. Conditions: lengths within bounds. -/
import Derived.Test.YtnmbmdigiaokjaaFy
namespace Go.Proofs.Ytnmbmdigiaokjaa
open Go.RowKit SL
attribute [local go_sem] cell_blk frozen_blk lt_blk cell_at frozen_row lt_row
set_option linter.unusedVariables false
set_option linter.unusedSimpArgs false

/-- Which errors have one of a kind in their walk, told from the end down to q. -/
def canL (es : List EC) (kind : Int) (q : Nat) : List Bool := (List.range es.length).map (fun i => decide (q ≤ i) && canB es kind i)
theorem canL_len (es : List EC) (kind : Int) (q : Nat) : (canL es kind q).length = es.length := by simp [canL]
theorem canL_get {es : List EC} (kind : Int) {q u : Nat} (h1 : q ≤ u) (h2 : u < es.length) : (canL es kind q)[u]? = some (canB es kind u) := by
  unfold canL; rw [List.getElem?_map, List.getElem?_range h2]; simp [h1]
theorem canL_top (es : List EC) (kind : Int) : canL es kind es.length = List.replicate es.length false := by
  unfold canL
  rw [List.eq_replicate_iff]
  refine ⟨by simp, fun b hb => ?_⟩
  obtain ⟨i, hi, rfl⟩ := List.mem_map.1 hb
  rw [List.mem_range] at hi
  rw [decide_eq_false (by omega)]; rfl
theorem canL_next {es : List EC} (kind : Int) {i : Nat} (h : i < es.length) : (canL es kind (i + 1)).set i (canB es kind i) = canL es kind i := by
  refine List.ext_getElem? fun u => ?_
  by_cases hu : u < es.length
  · by_cases hi : i = u
    · subst hi
      rw [List.getElem?_set_self (by rw [canL_len]; exact h), canL_get kind (Nat.le_refl _) h]
    · rw [List.getElem?_set_ne hi]
      unfold canL
      rw [List.getElem?_map, List.getElem?_map, List.getElem?_range hu]
      simp only [Option.map_some]
      by_cases h2 : i ≤ u
      · rw [decide_eq_true h2, decide_eq_true (by omega)]
      · rw [decide_eq_false h2, decide_eq_false (by omega)]
  · rw [List.getElem?_eq_none (by rw [List.length_set, canL_len]; omega), List.getElem?_eq_none (by rw [canL_len]; omega)]
/-- Error i itself or one of its first j parts. -/
def canJ (es : List EC) (kind : Int) (i j : Nat) : Bool := kB es kind i || ((partsN es i).take j).any (canB es kind)
theorem canJ_zero (es : List EC) (kind : Int) (i : Nat) : canJ es kind i 0 = kB es kind i := by simp [canJ]
theorem canJ_succ {es : List EC} {kind : Int} {i j u : Nat} (h : (partsN es i)[j]? = some u) : canJ es kind i (j + 1) = (canJ es kind i j || canB es kind u) := by
  unfold canJ; rw [take_succ_eq h, List.any_append]; simp [Bool.or_assoc]
theorem canJ_all {es : List EC} (hv : errsB es = true) {kind : Int} {i : Nat} (h : i < es.length) : canJ es kind i (partsN es i).length = canB es kind i := by
  unfold canJ; rw [List.take_length, canB_eq hv h]

set_option maxRecDepth 100000 in
set_option maxHeartbeats 2000000 in
theorem spec_l6Kinds (S : HP) (w : World) [H : SepI w S] (A : Option Addr) (c : Nat) (es : List EN) [r : Rd S A (cENs es)] [B : Nodes S es] (hv : errsB (es.map ecOf) = true) (kind : Int) :
    Calls Try.prog 52 #[.agg #[.slice A es.length c], .int .i64 kind] w fun e w' => ∃ b, e = .returned (.slice (some ⟨b, 0, none⟩) es.length es.length) ∧ Post w (Row 4 1 (.slice (some ⟨b, 0, none⟩) es.length es.length) es.length (bools (canL (es.map ecOf) kind 0)) * S) w' := by
  have HV := Hd.mk hv
  have HB := Hd.mk B
  have hs := small_of hv
  rw [List.length_map] at hs
  obtain ⟨ES, hES⟩ : ∃ ES, ES = es.map ecOf := ⟨_, rfl⟩
  have HES := Hd.mk hES
  have hel : es.length = ES.length := by rw [hES, List.length_map]
  have HEL := Hd.mk hel
  obtain ⟨n, hn⟩ : ∃ n, n = es.length := ⟨_, rfl⟩
  have HN := Hd.mk hn
  rw [← hES]
  rw [← hn] at hs ⊢
  have HPT : Hd (∀ i x, es[i]? = some x → partsN ES i = x.l.map Int.toNat) := ⟨fun i x hx => by rw [hES]; exact partsN_of hx⟩
  have HKA : Hd (∀ i x, es[i]? = some x → kB ES kind i = (x.k == kind)) := ⟨fun i x hx => by unfold kB kindAt; rw [hES, List.getD_eq_getElem?_getD, List.getElem?_map, hx]; rfl⟩
  have HTOP : Hd (canL ES kind n = List.replicate n false) := ⟨by rw [hn, hel]; exact canL_top _ _⟩
  clear hv B hES hel hn
  go_enter Try.func52, Try.ntmps52
  obtain ⟨be, hbe⟩ : ∃ be, be = w.heap.size := ⟨_, rfl⟩
  go_wp2_with (refine ev_make rfl 67 _ _ rfl n rfl rfl 4 1 1 _ Try.underlying67 info_bool rfl (by decide) (by decide) (by omega) ?_; rw [bools_zeros]; intro b w2 HS2 HE2)
  rw [← hbe] at HS2 ⊢
  clear hbe
  go_loopw [6] (fun v wr => ∃ q : Nat, q ≤ n ∧ v = .int .i64 ((q : Int) - 1) ∧ ExtI w wr ∧ SepI wr (Row 4 1 (.slice (some ⟨b, 0, none⟩) n n) n (bools (canL ES kind q)) * (pts be (.cells #[.slice A n c] 30 (0, 0)) * S))) (fun v _ => (intOf v + 1).toNat)
  case atStart => exact ⟨n, Nat.le_refl _, by go_num, inferInstance, by rw [HTOP.out]; exact HS2⟩
  case round =>
    obtain ⟨q, hq, rfl, HX, HS3⟩ := hrel
    by_cases hlt : 0 < q
    · obtain ⟨i, rfl⟩ : ∃ i, q = i + 1 := ⟨q - 1, by omega⟩
      have e1 : ((i + 1 : Nat) : Int) - 1 = i := by omega
      rw [e1]
      clear e1
      have hin : i < n := by omega
      have HIN := Hd.mk hin
      obtain ⟨x, hx⟩ := get_ex (xs := es) (k := i) (by rw [← HN.out]; exact hin)
      obtain ⟨b0, off, rfl⟩ := r.addr H (j := i) (by rw [cENs_len, ← HN.out]; omega)
      have c1 := r.cell (cENs_get hx).1
      have c3 := r.cell (cENs_get hx).2.2
      have rx := HB.out.rd x (List.mem_of_getElem? hx)
      have sx := HB.out.small x (List.mem_of_getElem? hx)
      obtain ⟨l0, hl0⟩ : ∃ l0, l0 = canL ES kind (i + 1) := ⟨_, rfl⟩
      have hl0n : l0.length = n := by rw [hl0, canL_len, HN.out]; exact HEL.out.symm
      have HL0G : Hd (∀ u, i < u → u < n → l0[u]? = some (canB ES kind u)) := ⟨fun u h1 h2 => by rw [hl0]; exact canL_get kind h1 (by rw [← HEL.out, ← HN.out]; exact h2)⟩
      have HL0N : Hd (l0.set i (canB ES kind i) = canL ES kind i) := ⟨by rw [hl0]; exact canL_next kind (by rw [← HEL.out, ← HN.out]; exact hin)⟩
      rw [← hl0] at HS3
      obtain ⟨g, hg⟩ := get_ex (xs := l0) (k := i) (by rw [hl0n]; exact hin)
      obtain ⟨ps, hps⟩ : ∃ ps, ps = partsN ES i := ⟨_, rfl⟩
      have hpx : ps = x.l.map Int.toNat := by rw [hps]; exact HPT.out i x hx
      have hpr : ∀ p ∈ ps, i < p ∧ p < n := fun p hp => by
        have := partsN_lt (es := ES) (by rw [HES.out]; exact HV.out) (k := i) (by rw [← hps]; exact hp)
        rw [← HEL.out, ← HN.out] at this
        exact this
      obtain ⟨m, hm⟩ : ∃ m, m = x.l.length := ⟨_, rfl⟩
      have HJ0 : Hd (canJ ES kind i 0 = (x.k == kind)) := ⟨by rw [canJ_zero]; exact HKA.out i x hx⟩
      have HJN : Hd (∀ j u, ps[j]? = some u → canJ ES kind i (j + 1) = (canJ ES kind i j || canB ES kind u)) := ⟨fun j u h => canJ_succ (by rw [← hps]; exact h)⟩
      have HJA : Hd (canJ ES kind i m = canB ES kind i) := ⟨by
        have e := canJ_all (es := ES) (by rw [HES.out]; exact HV.out) (kind := kind) (i := i) (by rw [← HEL.out, ← HN.out]; exact hin)
        rw [← hps, hpx, List.length_map, ← hm] at e
        exact e⟩
      obtain ⟨p, hp⟩ : ∃ p, p = x.p := ⟨_, rfl⟩
      rw [← hp] at rx
      rw [← hp, ← hm] at c3
      rw [← hm] at sx
      have HL0 := Hd.mk hl0n
      have HPX := Hd.mk hpx
      have HPR := Hd.mk hpr
      have HM := Hd.mk hm
      have d1 : CellAt _ b _ _ := Row.cellAt (e := 4) (size := 1) (g := b) (n := n) (c := n) (F := pts be (.cells #[.slice (some ⟨b0, off, none⟩) n c] 30 (0, 0)) * S) (bools_get hg)
      clear hx hl0 hps hpx hpr hl0n hm hp hg hlt
      go_wp2
      go_loopw [7] (fun v wq => ∃ j : Nat, j ≤ m ∧ v = .int .i64 j ∧ ExtI w wq ∧
        SepI wq (Row 4 1 (.slice (some ⟨b, 0, none⟩) n n) n (bools (l0.set i (canJ ES kind i j))) * (pts be (.cells #[.slice (some ⟨b0, off, none⟩) n c] 30 (0, 0)) * S))) (fun v _ => m - (intOf v).toNat)
      case atStart => exact ⟨0, Nat.zero_le _, rfl, inferInstance, SepI.cast inferInstance (by rw [bools_set, HJ0.out])⟩
      case round =>
        obtain ⟨j, hj, rfl, HX2, HS4⟩ := hrel
        by_cases hjm : j < m
        · obtain ⟨y, hy⟩ := get_ex (xs := x.l) (k := j) (by rw [← HM.out]; exact hjm)
          have hpy : ps[j]? = some y.toNat := by rw [HPX.out, List.getElem?_map, hy]; rfl
          have hyr := HPR.out _ (List.mem_of_getElem? hpy)
          obtain ⟨u, rfl⟩ : ∃ u : Nat, y = (u : Int) := ⟨y.toNat, by omega⟩
          rw [Int.toNat_natCast] at hpy hyr
          obtain ⟨bp, op, rfl⟩ := rx.addr H (j := j) (by rw [ints_len, ← HM.out]; omega)
          have c4 := rx.cell (ints_get hy)
          have hu1 := hyr.1
          have hu2 := hyr.2
          obtain ⟨cu, hcu⟩ : ∃ cu, canB ES kind u = cu := ⟨_, rfl⟩
          obtain ⟨cj, hcj⟩ : ∃ cj, canJ ES kind i j = cj := ⟨_, rfl⟩
          have HNX : Hd (canJ ES kind i (j + 1) = (cj || cu)) := ⟨by rw [HJN.out j u hpy, hcj, hcu]⟩
          rw [hcj] at HS4
          have d2 : CellAt _ b _ _ := Row.cellAt (e := 4) (size := 1) (g := b) (n := n) (c := n) (F := pts be (.cells #[.slice (some ⟨b0, off, none⟩) n c] 30 (0, 0)) * S) (bools_get (l := l0.set i cj) (k := u) (x := cu) (by rw [List.getElem?_set_ne (by omega), HL0G.out u hu1 hu2, hcu]))
          have d3 : CellAt _ b _ _ := Row.cellAt (e := 4) (size := 1) (g := b) (n := n) (c := n) (F := pts be (.cells #[.slice (some ⟨b0, off, none⟩) n c] 30 (0, 0)) * S) (bools_get (l := l0.set i cj) (k := i) (x := cj) (by rw [List.getElem?_set_self (by rw [HL0.out]; exact hin)]))
          clear hy hpy hyr hcu hcj d1
          cases cj
          · go_wp2
            go_roundw
            case rel => exact ⟨j + 1, by omega, by go_num, inferInstance, SepI.cast inferInstance (by rw [bools_set, List.set_set, HNX.out]; rfl)⟩
            case measure => (simp [intOf]; try omega)
          · go_wp2
            go_roundw
            case rel => exact ⟨j + 1, by omega, by go_num, inferInstance, SepI.cast inferInstance (by rw [bools_set, List.set_set, HNX.out]; rfl)⟩
            case measure => (simp [intOf]; try omega)
        · have : j = m := by omega
          subst this
          go_wp2
          go_roundw
          case rel => exact ⟨i, by omega, by go_num, inferInstance, SepI.cast inferInstance (by rw [HJA.out, HL0N.out])⟩
          case measure => (simp [intOf]; try omega)
    · have : q = 0 := by omega
      subst this
      go_wp2
      go_ret
      exact ⟨b, rfl, Post.mk' (Ent.sep (S := _) inferInstance inferInstance) inferInstance⟩
end Go.Proofs.Ytnmbmdigiaokjaa
