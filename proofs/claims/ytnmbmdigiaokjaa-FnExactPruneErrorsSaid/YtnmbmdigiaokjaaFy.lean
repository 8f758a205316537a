/- Errors: which are in a walk, by the reference's l6In. Conditions: lengths within bounds. -/
import Derived.Test.YtnmbmdigiaokjaaFw
namespace Go.Proofs.Ytnmbmdigiaokjaa
open Go.RowKit SL
attribute [local go_sem] cell_blk frozen_blk lt_blk cell_at frozen_row lt_row
set_option linter.unusedVariables false
set_option linter.unusedSimpArgs false

def bools (l : List Bool) : List Value := l.map Value.bool
theorem bools_len (l : List Bool) : (bools l).length = l.length := by simp [bools]
theorem bools_get {l : List Bool} {k : Nat} {x : Bool} (h : l[k]? = some x) : (bools l)[k]? = some (.bool x) := by simp [bools, h]
theorem bools_set (l : List Bool) (k : Nat) (x : Bool) : (bools l).set k (.bool x) = bools (l.set k x) := by simp [bools, List.map_set]
theorem info_bool : (Try.prog.info? 4).map (fun i => (i.zero, i.size, i.bytes)) = some (some (.bool false), 1, 1) := by kernel_rfl
theorem bools_zeros (n : Nat) : (List.replicate n (Value.bool false).cells.toList).flatten = bools (List.replicate n false) := by
  induction n with
  | zero => rfl
  | succ n ih => rw [List.replicate_succ, List.replicate_succ, List.flatten_cons, ih]; rfl
theorem markL_snoc {l : List Bool} {ps : List Nat} {j p : Nat} (h : ps[j]? = some p) : markL l (ps.take (j + 1)) = (markL l (ps.take j)).set p true := by
  unfold markL; rw [take_succ_eq h, List.foldl_append]; rfl
theorem getDB {l : List Bool} {k : Nat} {v : Bool} (h : l[k]? = some v) : l.getD k false = v := by rw [List.getD_eq_getElem?_getD, h]; rfl
theorem markL_same {l : List Bool} {ps : List Nat} {k : Nat} (hk : k < l.length) (h : k ∉ ps) : (markL l ps)[k]? = l[k]? := by
  have hl := markL_len l ps
  have e := markL_get ps l k hk
  rw [show ps.contains k = false from by rw [← Bool.not_eq_true, List.contains_iff_mem]; exact h, Bool.or_false] at e
  rw [List.getD_eq_getElem?_getD, List.getD_eq_getElem?_getD, List.getElem?_eq_getElem hk, List.getElem?_eq_getElem (by omega)] at e
  rw [List.getElem?_eq_getElem hk, List.getElem?_eq_getElem (by omega)]
  exact congrArg some e
/-- The marks at the head of the reference's outer loop: error i is asked next. -/
def inAt (es : List EC) (n i : Nat) : List Bool := inS es n (i - n)
set_option maxRecDepth 100000 in
set_option maxHeartbeats 2000000 in
theorem spec_l6In (S : HP) (w : World) [H : SepI w S] (A : Option Addr) (c : Nat) (es : List EN) [r : Rd S A (cENs es)] [B : Nodes S es] (hv : errsB (es.map ecOf) = true) (k : Nat) (hk : k < es.length) :
    Calls Try.prog 65 #[.agg #[.slice A es.length c], .int .i64 k] w fun e w' => ∃ b, e = .returned (.slice (some ⟨b, 0, none⟩) es.length es.length) ∧ Post w (Row 4 1 (.slice (some ⟨b, 0, none⟩) es.length es.length) es.length (bools (inL (es.map ecOf) k)) * S) w' := by
  have HV := Hd.mk hv
  have HB := Hd.mk B
  have hs := small_of hv
  rw [List.length_map] at hs
  obtain ⟨ES, hES⟩ : ∃ ES, ES = es.map ecOf := ⟨_, rfl⟩
  have HES := Hd.mk hES
  have hel : es.length = ES.length := by rw [hES, List.length_map]
  have HEL := Hd.mk hel
  obtain ⟨n, hn⟩ : ∃ n, n = es.length := ⟨_, rfl⟩
  have HN := Hd.mk hn
  rw [← hES]
  rw [← hn] at hs hk ⊢
  have HL : Hd (∀ i, (inAt ES k i).length = n) := ⟨fun i => by unfold inAt; rw [inS_len, ← hel, hn]⟩
  have HPT : Hd (∀ i x, es[i]? = some x → partsN ES i = x.l.map Int.toNat) := ⟨fun i x hx => by rw [hES]; exact partsN_of hx⟩
  clear hv B hES hel hn
  go_enter Try.func65, Try.ntmps65
  obtain ⟨be, hbe⟩ : ∃ be, be = w.heap.size := ⟨_, rfl⟩
  go_wp2_with (refine ev_make rfl 67 _ _ rfl n rfl rfl 4 1 1 _ Try.underlying67 info_bool rfl (by decide) (by decide) (by omega) ?_; rw [bools_zeros]; intro b w2 HS2 HE2; have d0 : CellAt _ b k (.bool false) := Row.cellAt (e := 4) (size := 1) (g := b) (n := n) (c := n) (F := pts w.heap.size (.cells #[.slice A n c] 30 (0, 0)) * S) (bools_get (by rw [List.getElem?_replicate, if_pos hk])))
  have hst : SepI _ (Row 4 1 (.slice (some ⟨b, 0, none⟩) n n) n ((bools (List.replicate n false)).set k (.bool true)) * (pts w.heap.size (.cells #[.slice A n c] 30 (0, 0)) * S)) := SepI.i_setRow w2 _ _ b k (.bool true) _ _ _ _ _
  have hst2 : SepI _ (Row 4 1 (.slice (some ⟨b, 0, none⟩) n n) n (bools (inAt ES k k)) * (pts be (.cells #[.slice A n c] 30 (0, 0)) * S)) := SepI.cast hst (by
    rw [bools_set, hbe]; unfold inAt; rw [Nat.sub_self, inS, ← HEL.out, ← HN.out])
  clear d0 hst HS2
  rw [← hbe]
  clear hbe
  go_loopw [6] (fun v wr => ∃ i : Nat, k ≤ i ∧ i ≤ n ∧ v = .int .i64 i ∧ ExtI w wr ∧ SepI wr (Row 4 1 (.slice (some ⟨b, 0, none⟩) n n) n (bools (inAt ES k i)) * (pts be (.cells #[.slice A n c] 30 (0, 0)) * S))) (fun v _ => n - (intOf v).toNat)
  case atStart => exact ⟨k, Nat.le_refl _, by omega, rfl, inferInstance, hst2⟩
  case round =>
    obtain ⟨i, hki, hi, rfl, HX, HS3⟩ := hrel
    by_cases hlt : i < n
    · obtain ⟨x, hx⟩ := get_ex (xs := es) (k := i) (by rw [← HN.out]; exact hlt)
      obtain ⟨b0, off, rfl⟩ := r.addr H (j := i) (by rw [cENs_len, ← HN.out]; omega)
      have c3 := r.cell (cENs_get hx).2.2
      have rx := HB.out.rd x (List.mem_of_getElem? hx)
      have sx := HB.out.small x (List.mem_of_getElem? hx)
      obtain ⟨l0, hl0⟩ : ∃ l0, l0 = inAt ES k i := ⟨_, rfl⟩
      have hl0n : l0.length = n := by rw [hl0]; exact HL.out i
      rw [← hl0] at HS3
      obtain ⟨g, hg⟩ := get_ex (xs := l0) (k := i) (by rw [hl0n]; exact hlt)
      obtain ⟨ps, hps⟩ : ∃ ps, ps = partsN ES i := ⟨_, rfl⟩
      have hpx : ps = x.l.map Int.toNat := by rw [hps]; exact HPT.out i x hx
      have hpr : ∀ p ∈ ps, i < p ∧ p < n := fun p hp => by
        have := partsN_lt (es := ES) (by rw [HES.out]; exact HV.out) (k := i) (by rw [← hps]; exact hp)
        rw [← HEL.out, ← HN.out] at this
        exact this
      have hnx : inAt ES k (i + 1) = if g then markL l0 ps else l0 := by
        unfold inAt
        rw [show i + 1 - k = (i - k) + 1 from by omega, inS, show k + (i - k) = i from by omega]
        have e : inS ES k (i - k) = l0 := hl0.symm
        rw [e, getDB hg, ← hps]
      obtain ⟨m, hm⟩ : ∃ m, m = x.l.length := ⟨_, rfl⟩
      obtain ⟨p, hp⟩ : ∃ p, p = x.p := ⟨_, rfl⟩
      rw [← hp] at rx
      rw [← hp, ← hm] at c3
      rw [← hm] at sx
      have HNX := Hd.mk hnx
      have HL0 := Hd.mk hl0n
      have HG := Hd.mk hg
      have HPX := Hd.mk hpx
      have HPR := Hd.mk hpr
      have HM := Hd.mk hm
      clear hx hl0 hps hpx hpr hnx hl0n hg hm hp
      cases g
      · have d1 : CellAt _ b _ _ := Row.cellAt (e := 4) (size := 1) (g := b) (n := n) (c := n) (F := pts be (.cells #[.slice (some ⟨b0, off, none⟩) n c] 30 (0, 0)) * S) (bools_get HG.out)
        go_wp2
        go_loopw [7] (fun v wz => v = .int .i64 0 ∧ ExtI w wz ∧ SepI wz (Row 4 1 (.slice (some ⟨b, 0, none⟩) n n) n (bools l0) * (pts be (.cells #[.slice (some ⟨b0, off, none⟩) n c] 30 (0, 0)) * S))) (fun _ _ => 0)
        case atStart => exact ⟨rfl, inferInstance, inferInstance⟩
        case round =>
          obtain ⟨rfl, HX2, HS4⟩ := hrel
          go_wp2
          all_goals
            go_roundw
            case rel => exact ⟨i + 1, by omega, by omega, by go_num, inferInstance, SepI.cast inferInstance (by rw [HNX.out]; rfl)⟩
            case measure => (simp [intOf]; try omega)
      · go_wp2
        go_loopw [7] (fun v wz => ∃ j : Nat, j ≤ m ∧ v = .int .i64 j ∧ ExtI w wz ∧ SepI wz (Row 4 1 (.slice (some ⟨b, 0, none⟩) n n) n (bools (markL l0 (ps.take j))) * (pts be (.cells #[.slice (some ⟨b0, off, none⟩) n c] 30 (0, 0)) * S))) (fun v _ => m - (intOf v).toNat)
        case atStart => exact ⟨0, Nat.zero_le _, rfl, inferInstance, SepI.cast inferInstance rfl⟩
        case round =>
          obtain ⟨j, hj, rfl, HX2, HS4⟩ := hrel
          have hgi : (markL l0 (ps.take j))[i]? = some true := by
            rw [markL_same (by rw [HL0.out]; exact hlt) (fun hq => by have := HPR.out i (List.mem_of_mem_take hq); omega)]; exact HG.out
          have d1 : CellAt _ b _ _ := Row.cellAt (e := 4) (size := 1) (g := b) (n := n) (c := n) (F := pts be (.cells #[.slice (some ⟨b0, off, none⟩) n c] 30 (0, 0)) * S) (bools_get hgi)
          by_cases hjm : j < m
          · obtain ⟨y, hy⟩ := get_ex (xs := x.l) (k := j) (by rw [← HM.out]; exact hjm)
            have hpy : ps[j]? = some y.toNat := by rw [HPX.out, List.getElem?_map, hy]; rfl
            have hyr := HPR.out _ (List.mem_of_getElem? hpy)
            obtain ⟨u, rfl⟩ : ∃ u : Nat, y = (u : Int) := ⟨y.toNat, by omega⟩
            rw [Int.toNat_natCast] at hpy hyr
            obtain ⟨bp, op, rfl⟩ := rx.addr H (j := j) (by rw [ints_len, ← HM.out]; omega)
            have c4 := rx.cell (ints_get hy)
            obtain ⟨z, hz⟩ := get_ex (xs := markL l0 (ps.take j)) (k := u) (by rw [markL_len, HL0.out]; exact hyr.2)
            have d2 : CellAt _ b _ _ := Row.cellAt (e := 4) (size := 1) (g := b) (n := n) (c := n) (F := pts be (.cells #[.slice (some ⟨b0, off, none⟩) n c] 30 (0, 0)) * S) (bools_get hz)
            have HPY := Hd.mk hpy
            have hu1 := hyr.1
            have hu2 := hyr.2
            clear hy hpy hz hgi hyr
            go_wp2
            go_roundw
            case rel => exact ⟨j + 1, by omega, by go_num, inferInstance, SepI.cast inferInstance (by rw [bools_set, markL_snoc HPY.out])⟩
            case measure => (simp [intOf]; try omega)
          · have : j = m := by omega
            subst this
            clear hgi
            go_wp2
            go_roundw
            case rel => exact ⟨i + 1, by omega, by omega, by go_num, inferInstance, SepI.cast inferInstance (by rw [HNX.out, if_pos trivial, List.take_of_length_le (by rw [HPX.out, List.length_map, HM.out]; exact Nat.le_refl _)])⟩
            case measure => (simp [intOf]; try omega)
    · have : i = n := by omega
      subst this
      go_wp2
      go_ret
      exact ⟨b, rfl, Post.mk' (SepI.cast (Ent.sep (S := _) (T := Row 4 1 (.slice (some ⟨b, 0, none⟩) i i) i (bools (inAt ES k i)) * S) inferInstance inferInstance) (by unfold inL inAt; rw [← HEL.out, ← HN.out])) inferInstance⟩
end Go.Proofs.Ytnmbmdigiaokjaa
