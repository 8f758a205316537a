/- CountWays: the program's answer. Conditions: lengths within bounds. -/
import Derived.Test.YtmallhlddilmcaaCw
namespace Go.Proofs.Ytmallhlddilmcaa
open Go.RowKit SL
attribute [local go_sem] cell_blk frozen_blk lt_blk cell_at frozen_row lt_row
set_option linter.unusedVariables false
set_option linter.unusedSimpArgs false

def waysAns (es : List EC) (n t : Int) : Int := if hasB es [n, t] then (cws es t.toNat).getD n.toNat 0 else 0
theorem hasB_two {es : List EC} {n t : Int} (h : hasB es [n, t] = true) : errsB es = true ∧ (∃ k : Nat, n = k ∧ k < es.length) ∧ ∃ k : Nat, t = k ∧ k < es.length := by
  unfold hasB at h
  simp only [Bool.and_eq_true, List.all_cons, List.all_nil, Bool.and_true] at h
  have := inB_true h.2.1
  have := inB_true h.2.2
  exact ⟨h.1, ⟨n.toNat, by omega, by omega⟩, t.toNat, by omega, by omega⟩
theorem cws_at {es : List EC} {k : Nat} (t : Nat) (h : k < es.length) : ∃ v, (cws es t)[k]? = some v := get_ex (by unfold cws; rw [tabF_len]; exact h)

set_option maxRecDepth 100000 in
set_option maxHeartbeats 4000000 in
theorem impl_CountWays (S : HP) (w : World) [H : SepI w S] (A : Option Addr) (c : Nat) (es : List EN) [r : Rd S A (cENs es)] [B : Nodes S es] (a b : Int) :
    Calls Try.prog 37 #[.agg #[.slice A es.length c], .int .i64 a, .int .i64 b] w fun e w' => e = two (.int .i64 (waysAns (es.map ecOf) a b)) (.bool (hasB (es.map ecOf) [a, b])) ∧ Post w S w' := by
  have hmf : ∀ (fn : Fn) (first cap : Array Value) (w : World), (Instr.makeFunc fn first cap).run Try.prog w = .ok (.func fn first cap) w := fun _ _ _ _ => rfl
  obtain ⟨ok, hok⟩ : ∃ ok, hasB (es.map ecOf) [a, b] = ok := ⟨_, rfl⟩
  have HOK := Hd.mk hok
  rw [hok]
  have hn := B.n
  clear hok
  cases ok
  · have hans : waysAns (es.map ecOf) a b = 0 := by unfold waysAns; rw [HOK.out]; rfl
    rw [hans]
    clear hans
    go_enter Try.func37, Try.ntmps37
    go_wp2_with fail
    refine (impl_has _ _ _ _ es _ 2 [a, b] (rl := rd_two a b) (by simp) _ HOK.out).mono ?_
    rintro e w1 ⟨rfl, HP⟩
    have HS1 := HP.sep
    have HE1 := HP.ext
    clear HP
    go_wp2
    go_ret2
    exact ⟨rfl, Post.mk' (Ent.sep (S := _) inferInstance inferInstance) inferInstance⟩
  · obtain ⟨hv, ⟨k, rfl, hk⟩, t, rfl, ht⟩ := hasB_two HOK.out
    obtain ⟨v, hd⟩ := cws_at t hk
    have hans : waysAns (es.map ecOf) k t = v := by unfold waysAns; rw [HOK.out, if_pos rfl, Int.toNat_natCast, Int.toNat_natCast, getD_of hd]
    rw [hans]
    have HV := Hd.mk hv
    have HD := Hd.mk hd
    rw [List.length_map] at hk ht
    clear hans hv hd
    go_enter Try.func37, Try.ntmps37
    have HPR : Hd (∀ S' : HP, ∀ j, j < es.length → TellP (S' * (pts (w.heap.size + 2) (.cells #[.int .i64 k, .int .i64 t] 3 (0, 0)) * (pts (w.heap.size + 1) (.cells #[.int .i64 t] 3 (0, 0)) * (pts w.heap.size (.cells #[.slice A es.length c] 40 (0, 0)) * S)))) 73 #[.pointer (some ⟨w.heap.size + 1, 0, none⟩), .pointer (some ⟨w.heap.size, 0, none⟩)] es.length (cwE (es.map ecOf) t) j) :=
      ⟨fun S' j hj b W HW => by
        have hl := tabF_len es.length (cwE (es.map ecOf) t) (es.length - (j + 1))
        exact impl_Ways1 _ W (w.heap.size + 1) w.heap.size A c es b j t _ HV.out hj ht hl⟩
    go_wp2_with fail
    refine (impl_has _ _ _ _ es _ 2 [(k : Int), (t : Int)] (rl := rd_two (k : Int) (t : Int)) (by simp) _ HOK.out).mono ?_
    rintro e w1 ⟨rfl, HP⟩
    have HS1 := HP.sep
    have HE1 := HP.ext
    clear HP
    go_wp2_with fail
    refine (eachInt _ _ A c es.length hn _ _ _ enters_ways HPR.out).mono ?_
    rintro e w2 ⟨b, rfl, HP⟩
    have HS2 := HP.sep
    have HE2 := HP.ext
    have d1 : CellAt _ b _ _ := Row.cellAt (e := 3) (size := 1) (g := b) (n := es.length) (c := es.length) (F := (pts (w.heap.size + 2) (.cells #[.int .i64 k, .int .i64 t] 3 (0, 0)) * (pts (w.heap.size + 1) (.cells #[.int .i64 t] 3 (0, 0)) * (pts w.heap.size (.cells #[.slice A es.length c] 40 (0, 0)) * S)))) (j := k) (v := .int .i64 v) (ints_get (by have := HD.out; unfold cws at this; rw [List.length_map] at this; exact this))
    clear HP
    go_wp2
    go_ret2
    exact ⟨rfl, Post.mk' (Ent.sep (S := _) inferInstance inferInstance) inferInstance⟩
end Go.Proofs.Ytmallhlddilmcaa
