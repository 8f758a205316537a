/- WalkOf by the program and by the reference. Conditions: lengths within bounds. -/
import Derived.Test.YtnmbmdigiaokjaaWl
namespace Go.Proofs.Ytnmbmdigiaokjaa
open Go.RowKit SL
attribute [local go_sem] cell_blk frozen_blk lt_blk cell_at frozen_row lt_row
set_option linter.unusedVariables false
set_option linter.unusedSimpArgs false

/-- What WalkOf answers. -/
def walkAns (es : List EC) (a : Int) : List Int := if hasB es [a] then nats (walkF es es.length [] a.toNat) else []
theorem small_WalkOf (es : List EC) (a : Int) : (walkAns es a).length ≤ 1048576 := by
  unfold walkAns
  split
  · rw [nats_len]
    have := walkF_len es es.length a.toNat [] (by simp)
    omega
  · simp
set_option maxRecDepth 100000 in
set_option maxHeartbeats 2000000 in
theorem impl_WalkOf (S : HP) (w : World) [H : SepI w S] (A : Option Addr) (c : Nat) (es : List EN) [r : Rd S A (cENs es)] [B : Nodes S es] (hpc : PcOk es) (a : Int) :
    Calls Try.prog 19 #[.agg #[.slice A es.length c], .int .i64 a] w (IntsOk S (walkAns (es.map ecOf) a) (hasB (es.map ecOf) [a]) w) := by
  obtain ⟨ok, hok⟩ : ∃ ok, hasB (es.map ecOf) [a] = ok := ⟨_, rfl⟩
  have HOK := Hd.mk hok
  rw [hok]
  have hn := B.n
  have HB := Hd.mk B
  clear hok hpc
  cases ok
  · have hans : walkAns (es.map ecOf) a = [] := by unfold walkAns; rw [HOK.out]; rfl
    rw [hans]
    clear hans
    go_enter Try.func19, Try.ntmps19
    go_wp2_with fail
    refine (impl_has _ _ _ _ es _ 1 [a] (rl := rd_one a) (by simp) _ HOK.out).mono ?_
    rintro e w1 ⟨rfl, HP⟩
    have HS1 := HP.sep
    have HE1 := HP.ext
    clear HP
    go_wp2
    go_ret2
    exact IntsOk.nil (v := .slice none 0 0) (Post.mk' (Ent.sep (S := _) inferInstance (Row.nil0 HS1 3 1)) inferInstance)
  · obtain ⟨hv, k, rfl, hk⟩ := hasB_one HOK.out
    rw [List.length_map] at hk
    have hans : walkAns (es.map ecOf) k = nats (walkF (es.map ecOf) es.length [] k) := by unfold walkAns; rw [HOK.out, if_pos rfl, Int.toNat_natCast, List.length_map]
    rw [hans]
    have HV := Hd.mk hv
    have HK := Hd.mk hk
    clear hans hv hk
    go_enter Try.func19, Try.ntmps19
    go_wp2_with fail
    refine (impl_has _ _ _ _ es _ 1 [(k : Int)] (rl := rd_one (k : Int)) (by simp) _ HOK.out).mono ?_
    rintro e w1 ⟨rfl, HP⟩
    have HS1 := HP.sep
    have HE1 := HP.ext
    clear HP
    go_wp2_with fail
    refine (impl_walk _ _ es HV.out es.length _ w1 (.slice none 0 0) [] k (Row.nil0 HS1 3 1) inferInstance inferInstance (by omega) HK.out (by simp)).mono ?_
    rintro e w2 ⟨v2, rfl, HP⟩
    have HS2 := HP.sep
    have HE2 := HP.ext
    clear HP
    go_wp2
    go_ret2
    exact IntsOk.of (v := v2) (Post.mk' (Ent.sep (S := _) inferInstance inferInstance) inferInstance)
set_option maxRecDepth 100000 in
set_option maxHeartbeats 2000000 in
theorem spec_WalkOf (S : HP) (w : World) [H : SepI w S] (A : Option Addr) (c : Nat) (es : List EN) [r : Rd S A (cENs es)] [B : Nodes S es] (hpc : PcOk es) (a : Int) :
    Calls Try.prog 18 #[.agg #[.slice A es.length c], .int .i64 a] w (IntsOk S (walkAns (es.map ecOf) a) (hasB (es.map ecOf) [a]) w) := by
  obtain ⟨ok, hok⟩ : ∃ ok, hasB (es.map ecOf) [a] = ok := ⟨_, rfl⟩
  have HOK := Hd.mk hok
  rw [hok]
  have hn := B.n
  have HB := Hd.mk B
  clear hok hpc
  cases ok
  · have hans : walkAns (es.map ecOf) a = [] := by unfold walkAns; rw [HOK.out]; rfl
    rw [hans]
    clear hans
    go_enter Try.func18, Try.ntmps18
    go_wp2_with fail
    refine (spec_l6One _ _ _ _ es _ _ HOK.out).mono ?_
    rintro e w1 ⟨rfl, HP⟩
    have HS1 := HP.sep
    have HE1 := HP.ext
    clear HP
    go_wp2
    go_ret2
    exact IntsOk.nil (v := .slice (some ⟨w1.heap.size, 0, none⟩) 0 0) (Post.mk' (Ent.sep (S := _) inferInstance (Row.lit0 (size := 1) (SepI.i_alloc w1 (.cells #[] 3 (0, 0)) _ _))) inferInstance)
  · obtain ⟨hv, k, rfl, hk⟩ := hasB_one HOK.out
    rw [List.length_map] at hk
    have hans : walkAns (es.map ecOf) k = nats (walkF (es.map ecOf) es.length [] k) := by unfold walkAns; rw [HOK.out, if_pos rfl, Int.toNat_natCast, List.length_map]
    rw [hans]
    have HV := Hd.mk hv
    have HK := Hd.mk hk
    clear hans hv hk
    go_enter Try.func18, Try.ntmps18
    go_wp2_with fail
    refine (spec_l6One _ _ _ _ es _ _ HOK.out).mono ?_
    rintro e w1 ⟨rfl, HP⟩
    have HS1 := HP.sep
    have HE1 := HP.ext
    clear HP
    go_wp2_with fail
    refine (spec_l6Walk _ _ es HV.out es.length _ (w1.alloc (.cells #[] 3 (0, 0))) (.slice (some ⟨w1.heap.size, 0, none⟩) 0 0) [] k (Row.lit0 (size := 1) (SepI.i_alloc w1 (.cells #[] 3 (0, 0)) _ _)) inferInstance (@Nodes.up _ _ _ HB.out) (by omega) HK.out (by simp)).mono ?_
    rintro e w2 ⟨v2, rfl, HP⟩
    have HS2 := HP.sep
    have HE2 := HP.ext
    clear HP
    go_wp2
    go_ret2
    exact IntsOk.of (v := v2) (Post.mk' (Ent.sep (S := _) inferInstance inferInstance) inferInstance)
end Go.Proofs.Ytnmbmdigiaokjaa
