/- AreAlike: the program's answer. Conditions: lengths within bounds. -/
import Derived.Test.YtmallhlddilmcaaAm
import Derived.Test.YtmallhlddilmcaaCx
namespace Go.Proofs.Ytmallhlddilmcaa
open Go.RowKit SL
attribute [local go_sem] cell_blk frozen_blk lt_blk cell_at frozen_row lt_row
set_option linter.unusedVariables false
set_option linter.unusedSimpArgs false

def alikeAns (es : List EC) (a b : Int) : Bool := if hasB es [a, b] then (clss es).getD a.toNat 0 == (clss es).getD b.toNat 0 else false
theorem clss_at {es : List EC} {k : Nat} (h : k < es.length) : ∃ v, (clss es)[k]? = some v := get_ex (by unfold clss; rw [tabF_len]; exact h)
theorem has_two' (es : List EC) (n t : Int) : hasB es [n, t] = (hasB es [n] && hasB es [t]) := by
  unfold hasB
  simp only [List.all_cons, List.all_nil, Bool.and_true]
  cases errsB es <;> simp

set_option maxRecDepth 100000 in
set_option maxHeartbeats 4000000 in
theorem impl_AreAlike (S : HP) (w : World) [H : SepI w S] (A : Option Addr) (c : Nat) (es : List EN) [r : Rd S A (cENs es)] [B : Nodes S es] (a b : Int) :
    Calls Try.prog 49 #[.agg #[.slice A es.length c], .int .i64 a, .int .i64 b] w fun e w' => e = two (.bool (alikeAns (es.map ecOf) a b)) (.bool (hasB (es.map ecOf) [a, b])) ∧ Post w S w' := by
  have hmf : ∀ (fn : Fn) (first cap : Array Value) (w : World), (Instr.makeFunc fn first cap).run Try.prog w = .ok (.func fn first cap) w := fun _ _ _ _ => rfl
  obtain ⟨ok, hok⟩ : ∃ ok, hasB (es.map ecOf) [a, b] = ok := ⟨_, rfl⟩
  have HOK := Hd.mk hok
  rw [hok]
  have hn := B.n
  clear hok
  cases ok
  · have hans : alikeAns (es.map ecOf) a b = false := by unfold alikeAns; rw [HOK.out]; rfl
    rw [hans]
    clear hans
    go_enter Try.func49, Try.ntmps49
    go_wp2_with fail
    refine (impl_has _ _ _ _ es _ 2 [a, b] (rl := rd_two a b) (by simp) _ HOK.out).mono ?_
    rintro e w1 ⟨rfl, HP⟩
    have HS1 := HP.sep
    have HE1 := HP.ext
    clear HP
    go_wp2
    go_ret2
    exact ⟨rfl, Post.mk' (Ent.sep (S := _) inferInstance inferInstance) inferInstance⟩
  · obtain ⟨hv, ⟨k, rfl, hk⟩, t, rfl, ht⟩ := hasB_two HOK.out
    obtain ⟨v, hd⟩ := clss_at hk
    obtain ⟨u, hd2⟩ := clss_at ht
    have hans : alikeAns (es.map ecOf) k t = (v == u) := by unfold alikeAns; rw [HOK.out, if_pos rfl, Int.toNat_natCast, Int.toNat_natCast, getD_of hd, getD_of hd2]
    rw [hans]
    have HV := Hd.mk hv
    have HD := Hd.mk hd
    have HD2 := Hd.mk hd2
    rw [List.length_map] at hk ht
    clear hans hv hd hd2
    go_enter Try.func49, Try.ntmps49
    have HPR : Hd (∀ S' : HP, ∀ j, j < es.length → TellP (S' * (pts (w.heap.size + 1) (.cells #[.int .i64 k, .int .i64 t] 3 (0, 0)) * (pts w.heap.size (.cells #[.slice A es.length c] 40 (0, 0)) * S))) 83 #[.pointer (some ⟨w.heap.size, 0, none⟩)] es.length (clsE (es.map ecOf)) j) :=
      ⟨fun S' j hj b W HW => by
        have hl := tabF_len es.length (clsE (es.map ecOf)) (es.length - (j + 1))
        exact impl_Alike1 _ W w.heap.size A c es b j _ HV.out hj hl⟩
    go_wp2_with fail
    refine (impl_has _ _ _ _ es _ 2 [(k : Int), (t : Int)] (rl := rd_two (k : Int) (t : Int)) (by simp) _ HOK.out).mono ?_
    rintro e w1 ⟨rfl, HP⟩
    have HS1 := HP.sep
    have HE1 := HP.ext
    clear HP
    go_wp2_with fail
    refine (eachInt _ _ A c es.length hn _ _ _ enters_alike HPR.out).mono ?_
    rintro e w2 ⟨b, rfl, HP⟩
    have HS2 := HP.sep
    have HE2 := HP.ext
    have d1 : CellAt _ b _ _ := Row.cellAt (e := 3) (size := 1) (g := b) (n := es.length) (c := es.length) (F := (pts (w.heap.size + 1) (.cells #[.int .i64 k, .int .i64 t] 3 (0, 0)) * (pts w.heap.size (.cells #[.slice A es.length c] 40 (0, 0)) * S))) (j := k) (v := .int .i64 v) (ints_get (by have := HD.out; unfold clss at this; rw [List.length_map] at this; exact this))
    have d2 : CellAt _ b _ _ := Row.cellAt (e := 3) (size := 1) (g := b) (n := es.length) (c := es.length) (F := (pts (w.heap.size + 1) (.cells #[.int .i64 k, .int .i64 t] 3 (0, 0)) * (pts w.heap.size (.cells #[.slice A es.length c] 40 (0, 0)) * S))) (j := t) (v := .int .i64 u) (ints_get (by have := HD2.out; unfold clss at this; rw [List.length_map] at this; exact this))
    clear HP
    go_wp2
    go_quiet (fail)
    go_wp2
    go_ret2
    exact ⟨rfl, Post.mk' (Ent.sep (S := _) inferInstance inferInstance) inferInstance⟩
end Go.Proofs.Ytmallhlddilmcaa
