/- DepthOf: the program's and the reference's answers. Conditions: lengths within bounds. -/
import Derived.Test.YtmallhlddilmcaaDe
namespace Go.Proofs.Ytmallhlddilmcaa
open Go.RowKit SL
attribute [local go_sem] cell_blk frozen_blk lt_blk cell_at frozen_row lt_row
set_option linter.unusedVariables false
set_option linter.unusedSimpArgs false

/-- Two answers. -/
abbrev two (a b : Value) : Ending := .returned (.tuple #[a, b])
/-- What DepthOf answers: the depth at number n, if there is such an error. -/
def depthAns (es : List EC) (n : Int) : Int := if hasB es [n] then (depths es).getD n.toNat 0 else 0
theorem hasB_one {es : List EC} {n : Int} (h : hasB es [n] = true) : errsB es = true ∧ ∃ k : Nat, n = k ∧ k < es.length := by
  unfold hasB at h
  simp only [Bool.and_eq_true, List.all_cons, List.all_nil, Bool.and_true] at h
  have := inB_true h.2
  exact ⟨h.1, n.toNat, by omega, by omega⟩
theorem depths_at {es : List EC} {k : Nat} (h : k < es.length) : ∃ v, (depths es)[k]? = some v := get_ex (by unfold depths; rw [tabF_len]; exact h)

theorem rd_one {S : HP} {g : Nat} {t : TypeId} {fz : Nat × Nat} (a : Int) [h : HasBlk S g (.cells #[.int .i64 a] t fz)] : Rd S (some ⟨g, 0, none⟩) (ints [a]) := Rd.of_blk h
theorem rd_two {S : HP} {g : Nat} {t : TypeId} {fz : Nat × Nat} (a b : Int) [h : HasBlk S g (.cells #[.int .i64 a, .int .i64 b] t fz)] : Rd S (some ⟨g, 0, none⟩) (ints [a, b]) := Rd.of_blk h

set_option maxRecDepth 100000 in
set_option maxHeartbeats 4000000 in
theorem impl_DepthOf (S : HP) (w : World) [H : SepI w S] (A : Option Addr) (c : Nat) (es : List EN) [r : Rd S A (cENs es)] [B : Nodes S es] (a : Int) :
    Calls Try.prog 39 #[.agg #[.slice A es.length c], .int .i64 a] w fun e w' => e = two (.int .i64 (depthAns (es.map ecOf) a)) (.bool (hasB (es.map ecOf) [a])) ∧ Post w S w' := by
  have hmf : ∀ (fn : Fn) (first cap : Array Value) (w : World), (Instr.makeFunc fn first cap).run Try.prog w = .ok (.func fn first cap) w := fun _ _ _ _ => rfl
  obtain ⟨ok, hok⟩ : ∃ ok, hasB (es.map ecOf) [a] = ok := ⟨_, rfl⟩
  have HOK := Hd.mk hok
  rw [hok]
  have hn := B.n
  clear hok
  cases ok
  · have hans : depthAns (es.map ecOf) a = 0 := by unfold depthAns; rw [HOK.out]; rfl
    rw [hans]
    clear hans
    go_enter Try.func39, Try.ntmps39
    go_wp2_with fail
    refine (impl_has _ _ _ _ es _ 1 [a] (rl := rd_one a) (by simp) _ HOK.out).mono ?_
    rintro e w1 ⟨rfl, HP⟩
    have HS1 := HP.sep
    have HE1 := HP.ext
    clear HP
    go_wp2
    go_ret2
    exact ⟨rfl, Post.mk' (Ent.sep (S := _) inferInstance inferInstance) inferInstance⟩
  · obtain ⟨hv, k, rfl, hk⟩ := hasB_one HOK.out
    obtain ⟨v, hd⟩ := depths_at hk
    have hans : depthAns (es.map ecOf) k = v := by unfold depthAns; rw [HOK.out, if_pos rfl, Int.toNat_natCast, getD_of hd]
    rw [hans]
    have HV := Hd.mk hv
    have HD := Hd.mk hd
    rw [List.length_map] at hk
    have HK := Hd.mk (small_of hv)
    clear hans hv hd
    go_enter Try.func39, Try.ntmps39
    have HPR : Hd (∀ S' : HP, ∀ j, j < es.length → TellP (S' * (pts (w.heap.size + 1) (.cells #[.int .i64 k] 3 (0, 0)) * (pts w.heap.size (.cells #[.slice A es.length c] 40 (0, 0)) * S))) 75 #[.pointer (some ⟨w.heap.size, 0, none⟩)] es.length (depthE (es.map ecOf)) j) :=
      ⟨fun S' j hj b W HW => by
        have hl := tabF_len es.length (depthE (es.map ecOf)) (es.length - (j + 1))
        exact impl_Depth1 _ W w.heap.size A c es b j _ HV.out hj hl (fun i u hu => by
          have e1 : es.length = (es.map ecOf).length := by simp
          have := depths_le (es.map ecOf) (es.length - (j + 1)) i u (by rw [← e1]; exact hu)
          have := HK.out.2
          rw [List.length_map] at this
          omega)⟩
    go_wp2_with fail
    refine (impl_has _ _ _ _ es _ 1 [(k : Int)] (rl := rd_one (k : Int)) (by simp) _ HOK.out).mono ?_
    rintro e w1 ⟨rfl, HP⟩
    have HS1 := HP.sep
    have HE1 := HP.ext
    clear HP
    go_wp2_with fail
    refine (eachInt _ _ A c es.length hn _ _ _ enters_depth HPR.out).mono ?_
    rintro e w2 ⟨b, rfl, HP⟩
    have HS2 := HP.sep
    have HE2 := HP.ext
    have d1 : CellAt _ b _ _ := Row.cellAt (e := 3) (size := 1) (g := b) (n := es.length) (c := es.length) (F := (pts (w.heap.size + 1) (.cells #[.int .i64 k] 3 (0, 0)) * (pts w.heap.size (.cells #[.slice A es.length c] 40 (0, 0)) * S))) (j := k) (v := .int .i64 v) (ints_get (by have := HD.out; unfold depths at this; rw [List.length_map] at this; exact this))
    clear HP
    go_wp2
    go_ret2
    exact ⟨rfl, Post.mk' (Ent.sep (S := _) inferInstance inferInstance) inferInstance⟩
end Go.Proofs.Ytmallhlddilmcaa
