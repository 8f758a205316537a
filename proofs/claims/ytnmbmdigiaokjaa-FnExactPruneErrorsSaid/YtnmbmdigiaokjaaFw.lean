/- Errors: the walk's errors by the program's found. Conditions: lengths within bounds. -/
import Derived.Test.YtnmbmdigiaokjaaFo
import Derived.Test.YtnmbmdigiaokjaaLb
namespace Go.Proofs.Ytnmbmdigiaokjaa
open Go.RowKit SL
attribute [local go_sem] cell_blk frozen_blk lt_blk cell_at frozen_row lt_row
set_option linter.unusedVariables false
set_option linter.unusedSimpArgs false

def nats (l : List Nat) : List Int := l.map (fun k : Nat => (k : Int))
theorem nats_len (l : List Nat) : (nats l).length = l.length := by simp [nats]
theorem nats_snoc (l : List Nat) (k : Nat) : nats (l ++ [k]) = nats l ++ [(k : Int)] := by simp [nats]
theorem nats_has (l : List Nat) (k : Nat) : (nats l).contains (k : Int) = l.contains k := by
  rw [Bool.eq_iff_iff, List.contains_iff_mem, List.contains_iff_mem]
  unfold nats
  rw [List.mem_map]
  constructor
  · rintro ⟨x, hx, e⟩; have : x = k := by omega
    subst this; exact hx
  · intro h; exact ⟨k, h, rfl⟩
theorem erase_len_le (n : Nat) (l : List Nat) : l.length ≤ (l.erase n).length + 1 := by
  by_cases hm : n ∈ l
  · rw [List.length_erase_of_mem hm]; omega
  · rw [List.erase_of_not_mem hm]; omega
theorem nodup_le : ∀ (n : Nat) (l : List Nat), l.Nodup → (∀ x ∈ l, x < n) → l.length ≤ n
  | 0, [], _, _ => Nat.le_refl _
  | 0, x :: l, _, h => by have := h x (by simp); omega
  | n + 1, l, hn, h => by
    have h1 := nodup_le n (l.erase n) (hn.erase n) (fun x hx => by
      have h2 := h x (List.mem_of_mem_erase hx)
      have h3 : x ≠ n := fun e => by subst e; exact (List.Nodup.not_mem_erase hn) hx
      omega)
    have h2 := erase_len_le n l
    omega
/-- What the list of a walk is: no number twice, each of an error. -/
def FI (es : List EC) (out : List Nat) : Prop := out.Nodup ∧ ∀ x ∈ out, x < es.length
theorem FI.len {es : List EC} {out : List Nat} (h : FI es out) : out.length ≤ es.length := nodup_le _ _ h.1 h.2
theorem foundF_FI {es : List EC} (hv : errsB es = true) : ∀ (d k : Nat) (out : List Nat), k < es.length → FI es out → FI es (foundF es d out k)
  | 0, k, out, _, h => h
  | d + 1, k, out, hk, h => by
    rw [foundF]
    split
    · exact h
    · rename_i hc
      have h0 : FI es (out ++ [k]) := ⟨by
        rw [List.nodup_append]
        refine ⟨h.1, by simp, fun a ha b hb => ?_⟩
        rw [List.mem_singleton.1 hb]
        rintro rfl
        exact hc (List.contains_iff_mem.2 ha), fun x hx => by
        rcases List.mem_append.1 hx with hx | hx
        · exact h.2 x hx
        · rw [List.mem_singleton.1 hx]; exact hk⟩
      have key : ∀ (l : List Nat), (∀ p ∈ l, p < es.length) → ∀ o, FI es o → FI es (l.foldl (fun o p => foundF es d o p) o) := by
        intro l
        induction l with
        | nil => intro _ o ho; exact ho
        | cons q l ih =>
          intro hl o ho
          exact ih (fun p hp => hl p (by simp [hp])) _ (foundF_FI hv d q o (hl q (by simp)) ho)
      exact key _ (fun p hp => (partsN_lt hv hp).2) _ h0
/-- The list behind j parts. -/
def fndJ (es : List EC) (d : Nat) (out : List Nat) (k j : Nat) : List Nat := ((partsN es k).take j).foldl (fun o p => foundF es d o p) (out ++ [k])
theorem fndJ_zero (es : List EC) (d : Nat) (out : List Nat) (k : Nat) : fndJ es d out k 0 = out ++ [k] := rfl
theorem fndJ_succ {es : List EC} {d : Nat} {out : List Nat} {k j p : Nat} (h : (partsN es k)[j]? = some p) : fndJ es d out k (j + 1) = foundF es d (fndJ es d out k j) p := by
  unfold fndJ; rw [take_succ_eq h, List.foldl_append]; rfl
theorem foundF_yes {es : List EC} {d : Nat} {out : List Nat} {k : Nat} (h : out.contains k = true) : foundF es (d + 1) out k = out := by rw [foundF, if_pos h]
theorem foundF_no {es : List EC} {d : Nat} {out : List Nat} {k : Nat} (h : out.contains k = false) : foundF es (d + 1) out k = fndJ es d out k (partsN es k).length := by
  rw [foundF, if_neg (by rw [h]; exact Bool.false_ne_true)]; unfold fndJ; rw [List.take_length]
theorem fndJ_FI {es : List EC} (hv : errsB es = true) {d k : Nat} {out : List Nat} (hk : k < es.length) (h : FI es out) (hc : out.contains k = false) (j : Nat) : FI es (fndJ es d out k j) := by
  have h0 : FI es (out ++ [k]) := by
    refine ⟨?_, fun x hx => ?_⟩
    · rw [List.nodup_append]
      refine ⟨h.1, by simp, fun a ha b hb => ?_⟩
      rw [List.mem_singleton.1 hb]
      rintro rfl
      rw [List.contains_iff_mem.2 ha] at hc
      cases hc
    · rcases List.mem_append.1 hx with hx | hx
      · exact h.2 x hx
      · rw [List.mem_singleton.1 hx]; exact hk
  unfold fndJ
  have key : ∀ (l : List Nat), (∀ p ∈ l, p < es.length) → ∀ o, FI es o → FI es (l.foldl (fun o p => foundF es d o p) o) := by
    intro l
    induction l with
    | nil => intro _ o ho; exact ho
    | cons q l ih =>
      intro hl o ho
      exact ih (fun p hp => hl p (by simp [hp])) _ (foundF_FI hv d q o (hl q (by simp)) ho)
  exact key _ (fun p hp => (partsN_lt hv (List.mem_of_mem_take hp)).2) _ h0
theorem partsN_of {es : List EN} {k : Nat} {x : EN} (h : es[k]? = some x) : partsN (es.map ecOf) k = x.l.map Int.toNat := by
  unfold partsN; rw [List.getD_eq_getElem?_getD, List.getElem?_map, h]; rfl

def FndPost (S : HP) (l : List Nat) (w : World) (e : Ending) (w' : World) : Prop := ∃ v, e = .returned v ∧ Post w (Row 3 1 v (nats l).length (ints (nats l)) * S) w'
set_option maxRecDepth 100000 in
set_option maxHeartbeats 1000000 in
theorem impl_found (A : Option Addr) (c : Nat) (es : List EN) (hv : errsB (es.map ecOf) = true) : ∀ (d : Nat) (S : HP) (w : World) (v : Value) (out : List Nat) (k : Nat) (H : SepI w (Row 3 1 v (nats out).length (ints (nats out)) * S)) (r : Rd S A (cENs es)) (B : Nodes S es)
    (hd : es.length ≤ d + k) (hk : k < es.length) (hf : FI (es.map ecOf) out),
    Calls Try.prog 55 #[.agg #[.slice A es.length c], v, .int .i64 k] w (FndPost S (foundF (es.map ecOf) d out k) w)
  | 0, S, w, v, out, k, H, r, B, hd, hk, hf => by omega
  | d + 1, S, w, v, out, k, H, r, B, hd, hk, hf => by
    have HIH := Hd.mk (impl_found A c es hv d)
    have HV := Hd.mk hv
    have HB := Hd.mk B
    have HF := Hd.mk hf
    have hlo := hf.len
    have hsm := small_of hv
    rw [List.length_map] at hlo hsm
    obtain ⟨A0, c0, rfl, hc0, hc1⟩ := Row.form H
    obtain ⟨lo, hlo'⟩ : ∃ lo, lo = nats out := ⟨_, rfl⟩
    have HLO := Hd.mk hlo'
    have hll : lo.length ≤ 12 := by rw [hlo', nats_len]; omega
    rw [← hlo'] at H ⊢
    obtain ⟨n, hn⟩ : ∃ n, n = es.length := ⟨_, rfl⟩
    have HN := Hd.mk hn
    rw [← hn] at hd hk ⊢
    have HDK := Hd.mk hd
    obtain ⟨q, hq⟩ : ∃ q, out.contains k = q := ⟨_, rfl⟩
    have HQ := Hd.mk hq
    have HC : Hd (lo.contains (k : Int) = q) := ⟨by rw [hlo', nats_has, hq]⟩
    clear hlo' hf hv B hq hlo hn hd
    cases q
    · have HR := Hd.mk (foundF_no (es := es.map ecOf) (d := d) HQ.out)
      rw [HR.out]
      obtain ⟨ps, hps⟩ : ∃ ps, ps = partsN (es.map ecOf) k := ⟨_, rfl⟩
      obtain ⟨x, hx⟩ := get_ex (xs := es) (k := k) (by rw [← HN.out]; exact hk)
      obtain ⟨b0, off, rfl⟩ := r.addr (S := S) H.right (j := k) (by rw [cENs_len, ← HN.out]; omega)
      have c1 := r.cell (cENs_get hx).1
      have c2 := r.cell (cENs_get hx).2.1
      have c3 := r.cell (cENs_get hx).2.2
      have rx := HB.out.rd x (List.mem_of_getElem? hx)
      have sx := HB.out.small x (List.mem_of_getElem? hx)
      have HPS : Hd (ps = x.l.map Int.toNat) := ⟨by rw [hps, partsN_of hx]⟩
      have HPS2 := Hd.mk hps
      rw [← hps]
      obtain ⟨m, hm⟩ : ∃ m, m = x.l.length := ⟨_, rfl⟩
      obtain ⟨p, hp⟩ : ∃ p, p = x.p := ⟨_, rfl⟩
      have HM := Hd.mk hm
      have hpl : ps.length = m := by rw [HPS.out, List.length_map, hm]
      rw [hpl]
      rw [← hp] at rx
      rw [← hp, ← hm] at c3
      rw [← hm] at sx
      have HX := Hd.mk hx
      have HPL := Hd.mk hpl
      clear hx hm hp hps hpl HR
      go_enter Try.func55, Try.ntmps55
      obtain ⟨be, hbe⟩ : ∃ be, be = w.heap.size := ⟨_, rfl⟩
      go_wp2_with fail
      refine (containsI _ _ _ _ lo (by omega) (k : Int) _ HC.out).mono ?_
      rintro e w1 ⟨rfl, HP⟩
      have HS1 := HP.sep
      have HE1 := HP.ext
      clear HP
      rw [← hbe] at HS1 ⊢
      clear hbe
      go_wp2_with (at_builtin; go_must (refine ev_append (v := .slice A0 lo.length c0) rfl _ _ 34 rfl rfl 8 _ Try.underlying34 info_int rfl (by decide) (by decide) w1.heap.size 1 1 rfl rfl (by simp [Value.oneCell']) (by omega) ?_); intro v1 w2 HS2 HE2)
      obtain ⟨O, hO⟩ : ∃ O : Nat → List Nat, O = fndJ (es.map ecOf) d out k := ⟨_, rfl⟩
      have HO := Hd.mk hO
      have hst : SepI w2 (Row 3 1 v1 (nats (O 0)).length (ints (nats (O 0))) * (pts be (.cells #[.slice (some ⟨b0, off, none⟩) n c] 30 (0, 0)) * S)) := SepI.cast (Ent.sep (S := _) (T := Row 3 1 v1 (lo.length + 1) (ints lo ++ [.int .i64 k]) * (pts be (.cells #[.slice (some ⟨b0, off, none⟩) n c] 30 (0, 0)) * S)) inferInstance HS2) (by
        rw [HO.out, fndJ_zero, nats_snoc, List.length_append, ints_append, ← HLO.out]; rfl)
      have HFJ : Hd (∀ j, FI (es.map ecOf) (O j)) := ⟨fun j => by rw [HO.out]; exact fndJ_FI HV.out (by rw [List.length_map, ← HN.out]; exact hk) HF.out HQ.out j⟩
      clear HS2 HS1 H hO
      go_loopw [1, 24] (fun v i wr => ∃ (j : Nat) (vv : Value), j ≤ m ∧ i = .int .i64 j ∧ vv = v ∧ ExtI w wr ∧ SepI wr (Row 3 1 vv (nats (O j)).length (ints (nats (O j))) * (pts be (.cells #[.slice (some ⟨b0, off, none⟩) n c] 30 (0, 0)) * S))) (fun _ i _ => m - (intOf i).toNat)
      case atStart => exact ⟨0, v1, Nat.zero_le _, rfl, rfl, inferInstance, hst⟩
      case round =>
        obtain ⟨j, vv, hj, rfl, rfl, HX2, HS3⟩ := hrel
        by_cases hlt : j < m
        · obtain ⟨y, hy⟩ := get_ex (xs := x.l) (k := j) (by rw [← HM.out]; exact hlt)
          obtain ⟨u, rfl, hu1, hu2⟩ := part_at HV.out (k := k) (x := ecOf x) (by rw [List.getElem?_map, HX.out]; rfl) hy
          rw [List.length_map] at hu2
          obtain ⟨bp, op, rfl⟩ := rx.addr (S := S) (w := wr) HS3.right.right (j := j) (by rw [ints_len, ← HM.out]; omega)
          have c4 := rx.cell (ints_get hy)
          have HY : Hd (foundF (es.map ecOf) d (O j) u = O (j + 1)) := ⟨by rw [HO.out]; exact (fndJ_succ (by rw [← HPS2.out, HPS.out, List.getElem?_map, hy]; rfl)).symm⟩
          clear hy
          go_wp2_with fail
          rw [HN.out]
          have hst3 : SepI wr (Row 3 1 vv (nats (O j)).length (ints (nats (O j))) * (pts be (.cells #[.slice (some ⟨b0, off, none⟩) es.length c] 30 (0, 0)) * S)) := by rw [← HN.out]; exact HS3
          refine (HIH.out _ _ vv (O j) u hst3 inferInstance (@Nodes.up _ _ _ HB.out) (by have := HDK.out; have := HN.out; omega) hu2 (HFJ.out j)).mono ?_
          rintro e w4 ⟨v4, rfl, HP⟩
          rw [HY.out, ← HN.out] at HP
          have HS4 := HP.sep
          have HE4 := HP.ext
          clear HP hst3
          rw [← HN.out]
          go_wp2
          go_roundw
          case rel => exact ⟨j + 1, v4, by omega, by go_num, rfl, inferInstance, inferInstance⟩
          case measure => simp [intOf]; omega
        · have : j = m := by omega
          subst this
          go_wp2
          go_ret
          exact ⟨vv, rfl, by rw [← HO.out]; exact Post.mk' (Ent.sep (S := _) inferInstance inferInstance) inferInstance⟩
    · have HR := Hd.mk (foundF_yes (es := es.map ecOf) (d := d) HQ.out)
      rw [HR.out]
      clear HR
      go_enter Try.func55, Try.ntmps55
      go_wp2_with fail
      refine (containsI _ _ _ _ lo (by omega) (k : Int) _ HC.out).mono ?_
      rintro e w1 ⟨rfl, HP⟩
      have HS1 := HP.sep
      have HE1 := HP.ext
      clear HP
      go_wp2
      go_ret
      exact ⟨.slice A0 lo.length c0, rfl, by rw [← HLO.out]; exact Post.mk' (Ent.sep (S := _) inferInstance inferInstance) inferInstance⟩
end Go.Proofs.Ytnmbmdigiaokjaa
