/- IsError: the program's answer. Conditions: lengths within bounds. -/
import Derived.Test.YtmallhlddilmcaaFw
import Derived.Test.YtmallhlddilmcaaCx
namespace Go.Proofs.Ytmallhlddilmcaa
open Go.RowKit SL
attribute [local go_sem] cell_blk frozen_blk lt_blk cell_at frozen_row lt_row
set_option linter.unusedVariables false
set_option linter.unusedSimpArgs false

/-- Whether error x is, or is like, target y with number t. -/
def likeE (x y : EC) : Bool := x.1 == 4 && (y.1 == 1 && x.2.1 == y.2.1)
def nodeA (es : List EC) (k : Nat) : EC := es.getD k (0, 0, [])
def likeB (es : List EC) (t k : Nat) : Bool := ((k : Int) == (t : Int)) || likeE (nodeA es k) (nodeA es t)
def isErrAns (es : List EC) (a b : Int) : Bool := if hasB es [a, b] then (found es a.toNat).any (likeB es b.toNat) else false
theorem nodeA_of {es : List EN} {k : Nat} {x : EN} (h : es[k]? = some x) : nodeA (es.map ecOf) k = ecOf x := by
  unfold nodeA; rw [List.getD_eq_getElem?_getD, List.getElem?_map, h]; rfl
theorem nats_any (l : List Nat) (p : Int → Bool) : (nats l).any p = l.any (fun k => p (k : Int)) := by unfold nats; rw [List.any_map]; rfl
theorem enters_is : Enters 81 := fun _ _ => by go_simp
set_option maxHeartbeats 2000000 in
theorem impl_Is1 (S : HP) (w : World) [H : SepI w S] (be bt bn k t : Nat) (A : Option Addr) (c : Nat) (es : List EN) (x y : EN) (hx : es[k]? = some x) (hy : es[t]? = some y) (hn : es.length ≤ 1048576) [r : Rd S A (cENs es)]
    [HasBlk S be (.cells #[.slice A es.length c] 40 (0, 0))] [HasBlk S bt (.cells #[.int .i64 t] 3 (0, 0))] [HasBlk S bn (.cells #[.int .i64 y.k, .int .i64 y.c, .slice y.p y.l.length y.pc] 76 (0, 0))] :
    Calls Try.prog 81 #[.int .i64 k, .pointer (some ⟨be, 0, none⟩), .pointer (some ⟨bt, 0, none⟩), .pointer (some ⟨bn, 0, none⟩)] w fun e w' => e = .returned (.bool (likeB (es.map ecOf) t k)) ∧ Post w S w' := by
  have hk : k < es.length := (List.getElem?_eq_some_iff.1 hx).1
  have hl : likeB (es.map ecOf) t k = (((k : Int) == (t : Int)) || (x.k == 4 && (y.k == 1 && x.c == y.c))) := by unfold likeB; rw [nodeA_of hx, nodeA_of hy]; rfl
  rw [hl]
  obtain ⟨b0, off, rfl⟩ := r.addr H (j := k) (by rw [cENs_len]; omega)
  have c1 := r.cell (cENs_get hx).1
  have c2 := r.cell (cENs_get hx).2.1
  have c3 := r.cell (cENs_get hx).2.2
  clear hx hl
  obtain ⟨b1, hb1⟩ : ∃ b1, ((k : Int) == (t : Int)) = b1 := ⟨_, rfl⟩
  obtain ⟨b2, hb2⟩ : ∃ b2, (x.k == 4) = b2 := ⟨_, rfl⟩
  obtain ⟨b3, hb3⟩ : ∃ b3, (y.k == 1) = b3 := ⟨_, rfl⟩
  obtain ⟨b4, hb4⟩ : ∃ b4, (x.c == y.c) = b4 := ⟨_, rfl⟩
  rw [hb1, hb2, hb3, hb4]
  cases b1
  · cases b2
    · go_enter Try.func81, Try.ntmps81
      go_wp2
      go_ret
      exact ⟨rfl, Post.mk' (Ent.sep (S := _) inferInstance inferInstance) inferInstance⟩
    · cases b3
      · go_enter Try.func81, Try.ntmps81
        go_wp2
        go_ret
        exact ⟨rfl, Post.mk' (Ent.sep (S := _) inferInstance inferInstance) inferInstance⟩
      · go_enter Try.func81, Try.ntmps81
        go_wp2
        go_ret
        exact ⟨ret_b (by simp), Post.mk' (Ent.sep (S := _) inferInstance inferInstance) inferInstance⟩
  · go_enter Try.func81, Try.ntmps81
    go_wp2
    go_ret
    exact ⟨rfl, Post.mk' (Ent.sep (S := _) inferInstance inferInstance) inferInstance⟩

set_option maxRecDepth 100000 in
set_option maxHeartbeats 2000000 in
theorem impl_IsError (S : HP) (w : World) [H : SepI w S] (A : Option Addr) (c : Nat) (es : List EN) [r : Rd S A (cENs es)] [B : Nodes S es] (a b : Int) :
    Calls Try.prog 47 #[.agg #[.slice A es.length c], .int .i64 a, .int .i64 b] w fun e w' => e = two (.bool (isErrAns (es.map ecOf) a b)) (.bool (hasB (es.map ecOf) [a, b])) ∧ Post w S w' := by
  have hmf : ∀ (fn : Fn) (first cap : Array Value) (w : World), (Instr.makeFunc fn first cap).run Try.prog w = .ok (.func fn first cap) w := fun _ _ _ _ => rfl
  obtain ⟨ok, hok⟩ : ∃ ok, hasB (es.map ecOf) [a, b] = ok := ⟨_, rfl⟩
  have HOK := Hd.mk hok
  rw [hok]
  have hn := B.n
  clear hok
  cases ok
  · have hans : isErrAns (es.map ecOf) a b = false := by unfold isErrAns; rw [HOK.out]; rfl
    rw [hans]
    clear hans
    go_enter Try.func47, Try.ntmps47
    go_wp2_with fail
    refine (impl_has _ _ _ _ es _ 2 [a, b] (rl := rd_two a b) (by simp) _ HOK.out).mono ?_
    rintro e w1 ⟨rfl, HP⟩
    have HS1 := HP.sep
    have HE1 := HP.ext
    clear HP
    go_wp2
    go_ret2
    exact ⟨rfl, Post.mk' (Ent.sep (S := _) inferInstance inferInstance) inferInstance⟩
  · obtain ⟨hv, ⟨k, rfl, hk⟩, t, rfl, ht⟩ := hasB_two HOK.out
    have HFI : Hd (FI (es.map ecOf) (found (es.map ecOf) k)) := ⟨foundF_FI hv _ k [] hk ⟨by simp, fun x hx => by cases hx⟩⟩
    have hfl := HFI.out.len
    have hsm := small_of hv
    obtain ⟨fl, hfl'⟩ : ∃ fl, fl = found (es.map ecOf) k := ⟨_, rfl⟩
    have HFL := Hd.mk hfl'
    rw [← hfl'] at hfl
    have hans : isErrAns (es.map ecOf) k t = fl.any (likeB (es.map ecOf) t) := by unfold isErrAns; rw [HOK.out, if_pos rfl, Int.toNat_natCast, Int.toNat_natCast, ← hfl']
    rw [hans]
    have HV := Hd.mk hv
    rw [List.length_map] at hk ht hfl hsm
    obtain ⟨y, hy⟩ := get_ex (xs := es) (k := t) ht
    obtain ⟨b0, off, rfl⟩ := r.addr H (j := t) (by rw [cENs_len]; omega)
    have c1 := r.cell (cENs_get hy).1
    have c2 := r.cell (cENs_get hy).2.1
    have c3 := r.cell (cENs_get hy).2.2
    have HY := Hd.mk hy
    have hlen : (nats fl).length ≤ 1048576 := by rw [nats_len]; omega
    obtain ⟨v, hv'⟩ : ∃ v, fl.any (likeB (es.map ecOf) t) = v := ⟨_, rfl⟩
    have HAN : Hd ((nats fl).any (fun q => likeB (es.map ecOf) t q.toNat) = v) := ⟨by rw [nats_any, ← hv']; rfl⟩
    rw [hv']
    clear hans hv hfl' hy hv' hfl
    go_enter Try.func47, Try.ntmps47
    obtain ⟨N, hN⟩ : ∃ N, N = w.heap.size := ⟨_, rfl⟩
    have HN := Hd.mk hN
    go_wp2_with fail
    refine (impl_has _ _ _ _ es _ 2 [(k : Int), (t : Int)] (rl := rd_two (k : Int) (t : Int)) (by simp) _ HOK.out).mono ?_
    rintro e w1 ⟨rfl, HP⟩
    have HS1 := HP.sep
    have HE1 := HP.ext
    clear HP
    rw [← hN] at HS1 ⊢
    clear hN
    go_wp2_with fail
    obtain ⟨M, hM⟩ : ∃ M, M = w1.heap.size := ⟨_, rfl⟩
    have HM := Hd.mk hM
    have HS2 := Row.nil0 (SepI.i_alloc w1 (.cells #[.int .i64 y.k, .int .i64 y.c, .slice y.p y.l.length y.pc] 76 (0, 0)) _ _) 3 1
    refine (impl_found _ c es HV.out (es.map ecOf).length _ _ (.slice none 0 0) [] k HS2 inferInstance inferInstance (by rw [List.length_map]; omega) hk ⟨by simp, fun x hx => by cases hx⟩).mono ?_
    rintro e w2 ⟨v2, rfl, HP⟩
    rw [show foundF (es.map ecOf) (es.map ecOf).length [] k = fl from HFL.out.symm] at HP
    have HS3 := HP.sep
    have HE3 := HP.ext
    obtain ⟨A2, c2', rfl, _, _⟩ := Row.form HS3
    clear HP HS2
    rw [← hM] at HS3 ⊢
    clear hM
    have HPR : Hd (∀ q ∈ nats fl, Pred (Row 3 1 (.slice A2 (nats fl).length c2') (nats fl).length (ints (nats fl)) * (pts M (.cells #[.int .i64 y.k, .int .i64 y.c, .slice y.p y.l.length y.pc] 76 (0, 0)) * (pts (N + 1 + 1) (.cells #[.int .i64 k, .int .i64 t] 3 (0, 0)) * (pts (N + 1) (.cells #[.int .i64 t] 3 (0, 0)) * (pts N (.cells #[.slice (some ⟨b0, off, none⟩) es.length c] 40 (0, 0)) * S)))))
        81 #[.pointer (some ⟨N, 0, none⟩), .pointer (some ⟨N + 1, 0, none⟩), .pointer (some ⟨M, 0, none⟩)] (intV q) (likeB (es.map ecOf) t q.toNat)) := ⟨fun q hq W HW => by
      unfold nats at hq
      obtain ⟨j, hj, rfl⟩ := List.mem_map.1 hq
      have hjl := HFI.out.2 j (by rw [← HFL.out]; exact hj)
      rw [List.length_map] at hjl
      obtain ⟨x, hx⟩ := get_ex (xs := es) (k := j) hjl
      rw [Int.toNat_natCast]
      exact impl_Is1 _ W N (N + 1) M j t _ c es x y hx HY.out hn⟩
    go_wp2_with fail
    refine (containsInt _ _ _ _ (nats fl) hlen _ _ _ _ enters_is HPR.out HAN.out).mono ?_
    rintro e w3 ⟨rfl, HP⟩
    have HS4 := HP.sep
    have HE4 := HP.ext
    clear HP
    go_wp2
    go_ret2
    exact ⟨rfl, Post.mk' (Ent.sep (S := _) inferInstance inferInstance) inferInstance⟩
end Go.Proofs.Ytmallhlddilmcaa
