/- WalkOf: the reference's walk, both answers. Conditions: lengths within bounds. -/
import Derived.Test.YtnmbmdigiaokjaaWk
namespace Go.Proofs.Ytnmbmdigiaokjaa
open Go.RowKit SL
attribute [local go_sem] cell_blk frozen_blk lt_blk cell_at frozen_row lt_row
set_option linter.unusedVariables false
set_option linter.unusedSimpArgs false

set_option maxRecDepth 100000 in
set_option maxHeartbeats 1000000 in
theorem spec_l6Walk (A : Option Addr) (c : Nat) (es : List EN) (hv : errsB (es.map ecOf) = true) : ∀ (d : Nat) (S : HP) (w : World) (v : Value) (out : List Nat) (k : Nat) (H : SepI w (Row 3 1 v (nats out).length (ints (nats out)) * S)) (r : Rd S A (cENs es)) (B : Nodes S es)
    (hd : es.length ≤ d + k) (hk : k < es.length) (hf : out.length ≤ 200),
    Calls Try.prog 57 #[.agg #[.slice A es.length c], .int .i64 k, v] w (FndPost S (walkF (es.map ecOf) d out k) w)
  | 0, S, w, v, out, k, H, r, B, hd, hk, hf => by omega
  | d + 1, S, w, v, out, k, H, r, B, hd, hk, hf => by
    have HIH := Hd.mk (spec_l6Walk A c es hv d)
    have HV := Hd.mk hv
    have HB := Hd.mk B
    have HF := Hd.mk hf
    have hsm := small_of hv
    rw [List.length_map] at hsm
    obtain ⟨A0, c0, rfl, hc0, hc1⟩ := Row.form H
    obtain ⟨lo, hlo'⟩ : ∃ lo, lo = nats out := ⟨_, rfl⟩
    have HLO := Hd.mk hlo'
    have hll : lo.length ≤ 200 := by rw [hlo', nats_len]; exact hf
    rw [← hlo'] at H ⊢
    obtain ⟨n, hn⟩ : ∃ n, n = es.length := ⟨_, rfl⟩
    have HN := Hd.mk hn
    rw [← hn] at hd hk ⊢
    have HDK := Hd.mk hd
    have hle : lo.length = out.length := by rw [hlo', nats_len]
    have HLE := Hd.mk hle
    clear hlo' hf hv B hn hd hle
    by_cases hq : lo.length = 200
    · have HR := Hd.mk (walkF_yes (es := es.map ecOf) (d := d) (k := k) (HLE.out.symm.trans hq))
      rw [HR.out]
      have hbq : ((lo.length : Int) == 200) = true := by simp; omega
      clear HR hq
      go_enter Try.func57, Try.ntmps57
      go_wp2
      go_ret
      exact ⟨.slice A0 lo.length c0, rfl, by rw [← HLO.out]; exact Post.mk' (Ent.sep (S := _) inferInstance inferInstance) inferInstance⟩
    · have hql : lo.length < 200 := by omega
      have HQ := Hd.mk hql
      have hbq : ((lo.length : Int) == 200) = false := by simp; omega
      have HR := Hd.mk (walkF_no (es := es.map ecOf) (d := d) (k := k) (fun h => hq (HLE.out.trans h)))
      rw [HR.out]
      obtain ⟨ps, hps⟩ : ∃ ps, ps = partsN (es.map ecOf) k := ⟨_, rfl⟩
      obtain ⟨x, hx⟩ := get_ex (xs := es) (k := k) (by rw [← HN.out]; exact hk)
      obtain ⟨b0, off, rfl⟩ := r.addr (S := S) H.right (j := k) (by rw [cENs_len, ← HN.out]; omega)
      have c1 := r.cell (cENs_get hx).1
      have c2 := r.cell (cENs_get hx).2.1
      have c3 := r.cell (cENs_get hx).2.2
      have rx := HB.out.rd x (List.mem_of_getElem? hx)
      have sx := HB.out.small x (List.mem_of_getElem? hx)
      have HPS : Hd (ps = x.l.map Int.toNat) := ⟨by rw [hps, partsN_of hx]⟩
      have HPS2 := Hd.mk hps
      rw [← hps]
      obtain ⟨m, hm⟩ : ∃ m, m = x.l.length := ⟨_, rfl⟩
      obtain ⟨p, hp⟩ : ∃ p, p = x.p := ⟨_, rfl⟩
      have HM := Hd.mk hm
      have hpl : ps.length = m := by rw [HPS.out, List.length_map, hm]
      rw [hpl]
      rw [← hp] at rx
      rw [← hp, ← hm] at c3
      rw [← hm] at sx
      have HX := Hd.mk hx
      have HPL := Hd.mk hpl
      clear hx hm hp hps hpl HR hq
      go_enter Try.func57, Try.ntmps57
      obtain ⟨be, hbe⟩ : ∃ be, be = w.heap.size := ⟨_, rfl⟩
      go_wp2_with (at_builtin; go_must (refine ev_append (v := .slice A0 lo.length c0) rfl _ _ 34 rfl rfl 8 _ Try.underlying34 info_int rfl (by decide) (by decide) (w.heap.size + 1) 1 1 rfl rfl (by simp [Value.oneCell']) (by omega) ?_); intro v1 w2 HS2 HE2)
      rw [← hbe] at HS2 ⊢
      clear hbe
      obtain ⟨O, hO⟩ : ∃ O : Nat → List Nat, O = wlkJ (es.map ecOf) d out k := ⟨_, rfl⟩
      have HO := Hd.mk hO
      have hst : SepI w2 (Row 3 1 v1 (nats (O 0)).length (ints (nats (O 0))) * (pts be (.cells #[.slice (some ⟨b0, off, none⟩) n c] 30 (0, 0)) * S)) := SepI.cast (Ent.sep (S := _) (T := Row 3 1 v1 (lo.length + 1) (ints lo ++ [.int .i64 k]) * (pts be (.cells #[.slice (some ⟨b0, off, none⟩) n c] 30 (0, 0)) * S)) inferInstance HS2) (by
        rw [HO.out, wlkJ_zero, nats_snoc, List.length_append, ints_append, ← HLO.out]; rfl)
      have HFJ : Hd (∀ j, (O j).length ≤ 200) := ⟨fun j => by rw [HO.out]; exact wlkJ_len _ d k (by rw [← HLE.out]; exact HQ.out) j⟩
      clear HS2 H hO
      go_loopw [2, 7] (fun v i wr => ∃ (j : Nat) (vv : Value), j ≤ m ∧ i = .int .i64 j ∧ vv = v ∧ ExtI w wr ∧ SepI wr (Row 3 1 vv (nats (O j)).length (ints (nats (O j))) * (pts be (.cells #[.slice (some ⟨b0, off, none⟩) n c] 30 (0, 0)) * S))) (fun _ i _ => m - (intOf i).toNat)
      case atStart => exact ⟨0, v1, Nat.zero_le _, rfl, rfl, inferInstance, hst⟩
      case round =>
        obtain ⟨j, vv, hj, rfl, rfl, HX2, HS3⟩ := hrel
        by_cases hlt : j < m
        · obtain ⟨y, hy⟩ := get_ex (xs := x.l) (k := j) (by rw [← HM.out]; exact hlt)
          obtain ⟨u, rfl, hu1, hu2⟩ := part_at HV.out (k := k) (x := ecOf x) (by rw [List.getElem?_map, HX.out]; rfl) hy
          rw [List.length_map] at hu2
          obtain ⟨bp, op, rfl⟩ := rx.addr (S := S) (w := wr) HS3.right.right (j := j) (by rw [ints_len, ← HM.out]; omega)
          have c4 := rx.cell (ints_get hy)
          have HY : Hd (walkF (es.map ecOf) d (O j) u = O (j + 1)) := ⟨by rw [HO.out]; exact (wlkJ_succ (by rw [← HPS2.out, HPS.out, List.getElem?_map, hy]; rfl)).symm⟩
          clear hy
          go_wp2_with fail
          go_still_tail 11, (by kernel_rfl)
          change wpList _ _ _ _ _ wr.drew
          go_wp2_with fail
          rw [HN.out]
          have hst3 : SepI wr.drew (Row 3 1 vv (nats (O j)).length (ints (nats (O j))) * (pts be (.cells #[.slice (some ⟨b0, off, none⟩) es.length c] 30 (0, 0)) * S)) := by rw [← HN.out]; exact SepI.cast inferInstance rfl
          refine (HIH.out _ _ vv (O j) u hst3 inferInstance (@Nodes.up _ _ _ HB.out) (by have := HDK.out; have := HN.out; omega) hu2 (HFJ.out j)).mono ?_
          rintro e w4 ⟨v4, rfl, HP⟩
          rw [HY.out, ← HN.out] at HP
          have HS4 := HP.sep
          have HE4 := HP.ext
          clear HP hst3
          rw [← HN.out]
          go_wp2
          go_roundw
          case rel => exact ⟨j + 1, v4, by omega, by go_num, rfl, inferInstance, inferInstance⟩
          case measure => simp [intOf]; omega
        · have : j = m := by omega
          subst this
          go_wp2
          go_ret
          exact ⟨vv, rfl, by rw [← HO.out]; exact Post.mk' (Ent.sep (S := _) inferInstance inferInstance) inferInstance⟩
end Go.Proofs.Ytnmbmdigiaokjaa
