/- slices.Clone, l1Own; UnwrapError by the program and by the reference. Conditions: lengths within bounds. -/
import Derived.Test.YtmallhlddilmcaaLb
import Derived.Test.YtmallhlddilmcaaDf
namespace Go.Proofs.Ytmallhlddilmcaa
open Go.RowKit SL
attribute [local go_sem] cell_blk frozen_blk lt_blk cell_at frozen_row lt_row
set_option linter.unusedVariables false
set_option linter.unusedSimpArgs false

/-- A call that hands back a row of ints of its own. -/
def IntsPost (S : HP) (l : List Int) (w : World) (e : Ending) (w' : World) : Prop := ∃ A c, e = .returned (.slice A l.length c) ∧ Post w (Row 3 1 (.slice A l.length c) l.length (ints l) * S) w'
/-- The same beside a bool. -/
def IntsOk (S : HP) (l : List Int) (ok : Bool) (w : World) (e : Ending) (w' : World) : Prop := ∃ A c, e = two (.slice A l.length c) (.bool ok) ∧ Post w (Row 3 1 (.slice A l.length c) l.length (ints l) * S) w'
theorem IntsPost.of {S : HP} {l : List Int} {w w' : World} {v : Value} (h : Post w (Row 3 1 v l.length (ints l) * S) w') : IntsPost S l w (.returned v) w' := by
  obtain ⟨A, c, rfl, _⟩ := Row.form h.sep
  exact ⟨A, c, rfl, h⟩
theorem IntsOk.of {S : HP} {l : List Int} {ok : Bool} {w w' : World} {v : Value} (h : Post w (Row 3 1 v l.length (ints l) * S) w') : IntsOk S l ok w (two v (.bool ok)) w' := by
  obtain ⟨A, c, rfl, _⟩ := Row.form h.sep
  exact ⟨A, c, rfl, h⟩
theorem IntsOk.nil {S : HP} {ok : Bool} {w w' : World} {v : Value} (h : Post w (Row 3 1 v 0 [] * S) w') : IntsOk S [] ok w (two v (.bool ok)) w' := IntsOk.of (l := []) h
theorem ints_one (l : List Int) : ∀ u ∈ ints l, u.oneCell' = true := fun u hu => by
  unfold ints at hu
  obtain ⟨x, _, rfl⟩ := List.mem_map.1 hu
  rfl
/-- Where a slice is nil its capacity is none. -/
def PcOk (es : List EN) : Prop := ∀ x ∈ es, x.p = none → x.pc = 0
theorem PcOk.own {w : World} {v : Value} {es : List EN} {F : HP} (H : SepI w (OwnE v es * F)) : PcOk es := fun x hx hp => by
  unfold OwnE at H
  rw [star_assoc] at H
  obtain ⟨R, e⟩ := stars_pick (List.mem_map_of_mem (f := OwnI) hx)
  have H2 := H.right
  rw [e, star_assoc] at H2
  unfold OwnI at H2
  rcases Row.open H2 with ⟨hv, _⟩ | ⟨g, cap, cur, hv, _⟩
  · injection hv
  · injection hv with hv _ _
    rw [hp] at hv; cases hv
theorem Rd.none_nil {S : HP} {cs : List Value} (r : Rd S none cs) {w : World} (H : SepI w S) : cs = [] := by
  rcases r.out w H with h | ⟨b, off, hA, _⟩
  · exact h
  · cases hA
set_option maxHeartbeats 1000000 in
theorem cloneI (S : HP) (w : World) [H : SepI w S] (A : Option Addr) (c : Nat) (l : List Int) [r : Rd S A (ints l)] (hn : l.length ≤ 1048576) (hA : A = none → c = 0) :
    Calls Try.prog 77 #[.slice A l.length c] w (IntsPost S l w) := by
  cases A with
  | none =>
    have hl : l = [] := by
      have := Rd.none_nil r H
      cases l with
      | nil => rfl
      | cons x l => simp [ints] at this
    subst hl
    have e1 := fun (w : World) (n c n' c' : Nat) => Lib.run_eql_slice_nil (P := Try.prog) w 62 3 none n c n' c' Try.underlying62
    go_enter Try.func77, Try.ntmps77
    go_wp2
    go_ret
    exact IntsPost.of (l := []) (Post.mk' (Row.nil0 H _ _) inferInstance)
  | some ad =>
    have e1 := fun (w : World) (n c n' c' : Nat) => Lib.run_eql_slice_nil (P := Try.prog) w 62 3 (some ad) n c n' c' Try.underlying62
    have HS1 : SepI (w.alloc (.cells #[] 3 (0, 0))) (Row 3 1 (.slice (some ⟨w.heap.size, 0, none⟩) 0 0) 0 [] * S) := Row.lit0 (SepI.i_alloc w (.cells #[] 3 (0, 0)) S _)
    go_enter Try.func77, Try.ntmps77
    go_wp2_with (at_builtin; go_must (refine ev_appendR (H := HS1) (v := .slice (some ⟨w.heap.size, 0, none⟩) 0 0) rfl _ _ 62 rfl rfl 8 _ Try.underlying62 info_int rfl (by decide) (by decide) (some ad) l.length c rfl (news := ints l) (fun h => (by cases h)) (by rw [ints_len, Nat.mul_one]) (ints_one l) (by omega) ?_); rw [Nat.zero_add, List.nil_append]; intro v1 w2 HS2 HE2)
    go_ret
    exact IntsPost.of (Post.mk' HS2 inferInstance)
set_option maxHeartbeats 1000000 in
theorem spec_l1Own (S : HP) (w : World) [H : SepI w S] (A : Option Addr) (c : Nat) (l : List Int) [r : Rd S A (ints l)] (hn : l.length ≤ 1048576) (hA : A = none → c = 0) :
    Calls Try.prog 76 #[.slice A l.length c] w (IntsPost S l w) := by
  have hA2 : A = none → l.length = 0 ∧ c = 0 := fun e => ⟨by
    subst e
    have := Rd.none_nil r H
    cases l with
    | nil => rfl
    | cons x l => simp [ints] at this, hA e⟩
  have HAA := Hd.mk hA2
  clear hA hA2
  have HS1 : SepI (w.alloc (.cells #[] 3 (0, 0))) (Row 3 1 (.slice (some ⟨w.heap.size, 0, none⟩) 0 0) 0 [] * S) := Row.lit0 (SepI.i_alloc w (.cells #[] 3 (0, 0)) S _)
  go_enter Try.func76, Try.ntmps76
  go_wp2_with (at_builtin; go_must (refine ev_appendR (H := HS1) (v := .slice (some ⟨w.heap.size, 0, none⟩) 0 0) rfl _ _ 62 rfl rfl 8 _ Try.underlying62 info_int rfl (by decide) (by decide) A l.length c rfl (news := ints l) HAA.out (by rw [ints_len, Nat.mul_one]) (ints_one l) (by omega) ?_); rw [Nat.zero_add, List.nil_append]; intro v1 w2 HS2 HE2)
  go_ret
  exact IntsPost.of (Post.mk' HS2 inferInstance)

/-- What UnwrapError answers. -/
def unwrapAns (es : List EC) (a : Int) : List Int := if hasB es [a] then (es.getD a.toNat (0, 0, [])).2.2 else []
set_option maxRecDepth 100000 in
set_option maxHeartbeats 2000000 in
theorem impl_UnwrapError (S : HP) (w : World) [H : SepI w S] (A : Option Addr) (c : Nat) (es : List EN) [r : Rd S A (cENs es)] [B : Nodes S es] (hpc : PcOk es) (a : Int) :
    Calls Try.prog 41 #[.agg #[.slice A es.length c], .int .i64 a] w (IntsOk S (unwrapAns (es.map ecOf) a) (hasB (es.map ecOf) [a]) w) := by
  obtain ⟨ok, hok⟩ : ∃ ok, hasB (es.map ecOf) [a] = ok := ⟨_, rfl⟩
  have HOK := Hd.mk hok
  rw [hok]
  have hn := B.n
  have HPC := Hd.mk hpc
  clear hok hpc
  cases ok
  · have hans : unwrapAns (es.map ecOf) a = [] := by unfold unwrapAns; rw [HOK.out]; rfl
    rw [hans]
    clear hans
    go_enter Try.func41, Try.ntmps41
    go_wp2_with fail
    refine (impl_has _ _ _ _ es _ 1 [a] (rl := rd_one a) (by simp) _ HOK.out).mono ?_
    rintro e w1 ⟨rfl, HP⟩
    have HS1 := HP.sep
    have HE1 := HP.ext
    clear HP
    go_wp2
    go_ret2
    exact IntsOk.nil (v := .slice none 0 0) (Post.mk' (Ent.sep (S := _) inferInstance (Row.nil0 HS1 3 1)) inferInstance)
  · obtain ⟨hv, k, rfl, hk⟩ := hasB_one HOK.out
    rw [List.length_map] at hk
    obtain ⟨x, hx⟩ := get_ex (xs := es) (k := k) hk
    have hans : unwrapAns (es.map ecOf) k = x.l := by unfold unwrapAns; rw [HOK.out, if_pos rfl, Int.toNat_natCast, List.getD_eq_getElem?_getD, List.getElem?_map, hx]; rfl
    rw [hans]
    obtain ⟨b0, off, rfl⟩ := r.addr H (j := k) (by rw [cENs_len]; omega)
    have c3 := r.cell (cENs_get hx).2.2
    have rx := B.rd x (List.mem_of_getElem? hx)
    have sx := B.small x (List.mem_of_getElem? hx)
    have HPX := Hd.mk (HPC.out x (List.mem_of_getElem? hx))
    clear hans hx hv
    go_enter Try.func41, Try.ntmps41
    go_wp2_with fail
    refine (impl_has _ _ _ _ es _ 1 [(k : Int)] (rl := rd_one (k : Int)) (by simp) _ HOK.out).mono ?_
    rintro e w1 ⟨rfl, HP⟩
    have HS1 := HP.sep
    have HE1 := HP.ext
    clear HP
    go_wp2_with fail
    refine (cloneI _ _ x.p x.pc x.l sx HPX.out).mono ?_
    rintro e w2 ⟨A2, c2, rfl, HP⟩
    have HS2 := HP.sep
    have HE2 := HP.ext
    clear HP
    go_wp2
    go_ret2
    exact ⟨A2, c2, rfl, Post.mk' (Ent.sep (S := _) inferInstance inferInstance) inferInstance⟩
set_option maxRecDepth 100000 in
set_option maxHeartbeats 2000000 in
theorem spec_UnwrapError (S : HP) (w : World) [H : SepI w S] (A : Option Addr) (c : Nat) (es : List EN) [r : Rd S A (cENs es)] [B : Nodes S es] (hpc : PcOk es) (a : Int) :
    Calls Try.prog 40 #[.agg #[.slice A es.length c], .int .i64 a] w (IntsOk S (unwrapAns (es.map ecOf) a) (hasB (es.map ecOf) [a]) w) := by
  obtain ⟨ok, hok⟩ : ∃ ok, hasB (es.map ecOf) [a] = ok := ⟨_, rfl⟩
  have HOK := Hd.mk hok
  rw [hok]
  have hn := B.n
  have HPC := Hd.mk hpc
  clear hok hpc
  cases ok
  · have hans : unwrapAns (es.map ecOf) a = [] := by unfold unwrapAns; rw [HOK.out]; rfl
    rw [hans]
    clear hans
    go_enter Try.func40, Try.ntmps40
    go_wp2_with fail
    refine (spec_l6One _ _ _ _ es _ _ HOK.out).mono ?_
    rintro e w1 ⟨rfl, HP⟩
    have HS1 := HP.sep
    have HE1 := HP.ext
    clear HP
    go_wp2
    go_ret2
    exact IntsOk.nil (v := .slice (some ⟨w1.heap.size, 0, none⟩) 0 0) (Post.mk' (Ent.sep (S := _) inferInstance (Row.lit0 (size := 1) (SepI.i_alloc w1 (.cells #[] 3 (0, 0)) _ _))) inferInstance)
  · obtain ⟨hv, k, rfl, hk⟩ := hasB_one HOK.out
    rw [List.length_map] at hk
    obtain ⟨x, hx⟩ := get_ex (xs := es) (k := k) hk
    have hans : unwrapAns (es.map ecOf) k = x.l := by unfold unwrapAns; rw [HOK.out, if_pos rfl, Int.toNat_natCast, List.getD_eq_getElem?_getD, List.getElem?_map, hx]; rfl
    rw [hans]
    obtain ⟨b0, off, rfl⟩ := r.addr H (j := k) (by rw [cENs_len]; omega)
    have c3 := r.cell (cENs_get hx).2.2
    have rx := B.rd x (List.mem_of_getElem? hx)
    have sx := B.small x (List.mem_of_getElem? hx)
    have HPX := Hd.mk (HPC.out x (List.mem_of_getElem? hx))
    clear hans hx hv
    go_enter Try.func40, Try.ntmps40
    go_wp2_with fail
    refine (spec_l6One _ _ _ _ es _ _ HOK.out).mono ?_
    rintro e w1 ⟨rfl, HP⟩
    have HS1 := HP.sep
    have HE1 := HP.ext
    clear HP
    go_wp2_with fail
    refine (spec_l1Own _ _ x.p x.pc x.l sx HPX.out).mono ?_
    rintro e w2 ⟨A2, c2, rfl, HP⟩
    have HS2 := HP.sep
    have HE2 := HP.ext
    clear HP
    go_wp2
    go_ret2
    exact ⟨A2, c2, rfl, Post.mk' (Ent.sep (S := _) inferInstance inferInstance) inferInstance⟩
theorem small_UnwrapError (es : List EC) (a : Int) : (unwrapAns es a).length ≤ 1048576 := by
  unfold unwrapAns
  split
  · rename_i h
    obtain ⟨hv, k, rfl, hk⟩ := hasB_one h
    rw [Int.toNat_natCast]
    obtain ⟨x, hx⟩ := get_ex (xs := es) (k := k) hk
    rw [List.getD_eq_getElem?_getD, hx]
    unfold errsB at hv
    simp only [Bool.and_eq_true] at hv
    have h1 := nodesB_at hv.2 hx
    unfold nodeB at h1
    simp only [Bool.and_eq_true, decide_eq_true_eq] at h1
    have := h1.2.2.1
    show x.2.2.length ≤ _
    omega
  · simp
end Go.Proofs.Ytmallhlddilmcaa
