/- LeavesOf: plain law, the closure, the reference's answer. Conditions: lengths within bounds. -/
import Derived.Test.YtnmbmdigiaokjaaDl
import Derived.Test.YtnmbmdigiaokjaaFy
import Derived.Test.YtnmbmdigiaokjaaUw
namespace Go.Proofs.Ytnmbmdigiaokjaa
open Go.RowKit SL
attribute [local go_sem] cell_blk frozen_blk lt_blk cell_at frozen_row lt_row
set_option linter.unusedVariables false
set_option linter.unusedSimpArgs false

def stemB (es : List EC) (k : Nat) : Bool := decide (0 < (partsN es k).length)
def leafL (es : List EC) (k i : Nat) : List Nat := (List.range i).filter (fun j => (inL es k).getD j false && !stemB es j)
def leavesAns (es : List EC) (a : Int) : List Int := if hasB es [a] then nats (leafL es a.toNat es.length) else []
theorem rises_nats_range (p : Nat → Bool) (n : Nat) : Rises (nats ((List.range n).filter p)) := by
  unfold Rises nats
  rw [List.pairwise_map]
  exact (List.Pairwise.filter p (List.pairwise_lt_range (n := n))).imp fun h => by omega
theorem mem_nats {l : List Nat} {x : Int} : x ∈ nats l ↔ ∃ k ∈ l, x = (k : Int) := by
  unfold nats; rw [List.mem_map]; constructor <;> rintro ⟨k, h, e⟩ <;> exact ⟨k, h, e.symm⟩
theorem leaves_asc {es : List EC} (hv : errsB es = true) {k : Nat} (hk : k < es.length) : ascA ((nats (found es k)).filter (fun x => !stemB es x.toNat)) = nats (leafL es k es.length) := by
  refine (asc_of (rises_nats_range _ _) fun x => ?_).symm
  rw [mem_nats, List.mem_filter, mem_nats]
  constructor
  · rintro ⟨j, hj, rfl⟩
    rw [List.mem_filter, Bool.and_eq_true, in_found hv hk, List.contains_iff_mem] at hj
    exact ⟨⟨j, hj.2.1, rfl⟩, by rw [Int.toNat_natCast]; exact hj.2.2⟩
  · rintro ⟨⟨j, hj, rfl⟩, hs⟩
    rw [Int.toNat_natCast] at hs
    refine ⟨j, ?_, rfl⟩
    rw [List.mem_filter, Bool.and_eq_true, in_found hv hk, List.contains_iff_mem, List.mem_range]
    exact ⟨((mem_found hv hk j).1 hj).lt hv hk, hj, hs⟩
theorem leafL_succ (es : List EC) (k i : Nat) : leafL es k (i + 1) = if (inL es k).getD i false && !stemB es i then leafL es k i ++ [i] else leafL es k i := by
  unfold leafL
  rw [List.range_succ, List.filter_append, List.filter_cons, List.filter_nil]
  cases ((inL es k).getD i false && !stemB es i) with
  | true => rfl
  | false => rw [if_neg Bool.false_ne_true, if_neg Bool.false_ne_true, List.append_nil]
theorem leafL_len (es : List EC) (k i : Nat) : (leafL es k i).length ≤ i := by
  have := List.length_filter_le (fun j => (inL es k).getD j false && !stemB es j) (List.range i)
  rw [List.length_range] at this
  exact this
theorem small_LeavesOf (es : List EC) (a : Int) : (leavesAns es a).length ≤ 1048576 := by
  unfold leavesAns
  split
  · rename_i h
    obtain ⟨hv, k, rfl, hk⟩ := hasB_one h
    have := leafL_len es (Int.toNat k) es.length
    have := small_of hv
    rw [nats_len]; omega
  · simp
theorem enters_lv : Enters 68 := fun _ _ => by go_simp
set_option maxHeartbeats 2000000 in
theorem impl_Lv1 (S : HP) (w : World) [H : SepI w S] (be k : Nat) (A : Option Addr) (c : Nat) (es : List EN) (x : EN) (hx : es[k]? = some x) (hn : es.length ≤ 1048576) (hs : x.l.length ≤ 1048576) [r : Rd S A (cENs es)]
    [HasBlk S be (.cells #[.slice A es.length c] 30 (0, 0))] :
    Calls Try.prog 68 #[.int .i64 k, .pointer (some ⟨be, 0, none⟩)] w fun e w' => e = .returned (.bool (stemB (es.map ecOf) k)) ∧ Post w S w' := by
  have hk : k < es.length := (List.getElem?_eq_some_iff.1 hx).1
  have hl : stemB (es.map ecOf) k = decide (0 < x.l.length) := by unfold stemB; rw [partsN_of hx, List.length_map]
  rw [hl]
  obtain ⟨b0, off, rfl⟩ := r.addr H (j := k) (by rw [cENs_len]; omega)
  have c3 := r.cell (cENs_get hx).2.2
  clear hx hl
  go_enter Try.func68, Try.ntmps68
  go_wp2
  go_ret
  exact ⟨ret_b (by by_cases h : 0 < x.l.length <;> simp [h]), Post.mk' (Ent.sep (S := _) inferInstance inferInstance) inferInstance⟩

set_option maxRecDepth 100000 in
set_option maxHeartbeats 2000000 in
theorem spec_LeavesOf (S : HP) (w : World) [H : SepI w S] (A : Option Addr) (c : Nat) (es : List EN) [r : Rd S A (cENs es)] [B : Nodes S es] (hpc : PcOk es) (a : Int) :
    Calls Try.prog 30 #[.agg #[.slice A es.length c], .int .i64 a] w (IntsOk S (leavesAns (es.map ecOf) a) (hasB (es.map ecOf) [a]) w) := by
  obtain ⟨ok, hok⟩ : ∃ ok, hasB (es.map ecOf) [a] = ok := ⟨_, rfl⟩
  have HOK := Hd.mk hok
  rw [hok]
  have hn := B.n
  have HB := Hd.mk B
  clear hok hpc
  have hlit : SepI (w.alloc (.cells #[.slice A es.length c] 30 (0, 0)) |>.alloc (.cells #[] 3 (0, 0))) (Row 3 1 (.slice (some ⟨w.heap.size + 1, 0, none⟩) 0 0) 0 [] * (pts w.heap.size (.cells #[.slice A es.length c] 30 (0, 0)) * S)) :=
    Row.lit0 (SepI.i_alloc _ (.cells #[] 3 (0, 0)) _ _)
  cases ok
  · have hans : leavesAns (es.map ecOf) a = [] := by unfold leavesAns; rw [HOK.out]; rfl
    rw [hans]
    clear hans
    go_enter Try.func30, Try.ntmps30
    go_wp2_with fail
    refine (spec_l6One _ _ (H := hlit) _ _ es _ _ HOK.out).mono ?_
    rintro e w1 ⟨rfl, HP⟩
    have HS1 := HP.sep
    have HE1 := HP.ext
    clear HP
    go_wp2
    go_ret2
    exact IntsOk.nil (v := .slice (some ⟨w.heap.size + 1, 0, none⟩) 0 0) (Post.mk' (Ent.sep (S := _) inferInstance inferInstance) inferInstance)
  · obtain ⟨hv, k, rfl, hk⟩ := hasB_one HOK.out
    have hans : leavesAns (es.map ecOf) k = nats (leafL (es.map ecOf) k es.length) := by unfold leavesAns; rw [HOK.out, if_pos rfl, Int.toNat_natCast, List.length_map]
    rw [List.length_map] at hk
    have hsm := small_of hv
    rw [List.length_map] at hsm
    have HV := Hd.mk hv
    have HK := Hd.mk hk
    rw [hans]
    obtain ⟨ES, hES⟩ : ∃ ES, ES = es.map ecOf := ⟨_, rfl⟩
    have HES := Hd.mk hES
    obtain ⟨n, hn'⟩ : ∃ n, n = es.length := ⟨_, rfl⟩
    have HN := Hd.mk hn'
    have HIL : Hd ((inL ES k).length = n) := ⟨by rw [hn', hES]; unfold inL; rw [inS_len, List.length_map]⟩
    have HST : Hd (∀ i x, es[i]? = some x → stemB ES i = decide (0 < x.l.length)) := ⟨fun i x hx => by unfold stemB; rw [hES, partsN_of hx, List.length_map]⟩
    obtain ⟨L, hL⟩ : ∃ L : Nat → List Nat, L = leafL ES k := ⟨_, rfl⟩
    have HL := Hd.mk hL
    have HL0 : Hd (L 0 = []) := ⟨by rw [hL]; rfl⟩
    have HLN : Hd (∀ i, L (i + 1) = if (inL ES k).getD i false && !stemB ES i then L i ++ [i] else L i) := ⟨fun i => by rw [hL]; exact leafL_succ ES k i⟩
    have HLL : Hd (∀ i, (L i).length ≤ i) := ⟨fun i => by rw [hL]; exact leafL_len ES k i⟩
    rw [← hES, ← hn', ← hL]
    rw [← hn'] at hsm
    clear hans hv hk hES hn' hL
    go_enter Try.func30, Try.ntmps30
    go_wp2_with fail
    rw [HN.out]
    refine (spec_l6One _ _ (H := hlit) _ _ es _ _ HOK.out).mono ?_
    rintro e w1 ⟨rfl, HP⟩
    have HS1 := HP.sep
    have HE1 := HP.ext
    clear HP hlit
    obtain ⟨be, hbe⟩ : ∃ be, be = w.heap.size := ⟨_, rfl⟩
    rw [← hbe] at HS1 ⊢
    clear hbe
    rw [← HN.out]
    rw [← HN.out] at HS1
    go_wp2_with fail
    rw [HN.out]
    have HS1' : SepI w1 (Row 3 1 (.slice (some ⟨be + 1, 0, none⟩) 0 0) 0 [] * (pts be (.cells #[.slice A es.length c] 30 (0, 0)) * S)) := by rw [← HN.out]; exact HS1
    clear HS1
    refine (spec_l6In _ _ _ _ es HV.out k HK.out).mono ?_
    rintro e w2 ⟨g, rfl, HP⟩
    rw [← HES.out, ← HN.out] at HP
    have HS2 := HP.sep
    have HE2 := HP.ext
    clear HP HS1'
    rw [← HN.out]
    go_wp2
    go_loopw [6, 8] (fun v6 v8 wr => ∃ (i : Nat) (vv : Value), i ≤ n ∧ v8 = .int .i64 i ∧ v6 = vv ∧ ExtI w wr ∧ SepI wr (Row 3 1 vv (nats (L i)).length (ints (nats (L i))) * (Row 4 1 (.slice (some ⟨g, 0, none⟩) n n) n (bools (inL ES k)) * (pts be (.cells #[.slice A n c] 30 (0, 0)) * S)))) (fun _ v _ => n - (intOf v).toNat)
    case atStart => exact ⟨0, .slice (some ⟨be + 1, 0, none⟩) 0 0, Nat.zero_le _, rfl, rfl, inferInstance, SepI.cast (Ent.sep (S := _) (T := Row 3 1 (.slice (some ⟨be + 1, 0, none⟩) 0 0) 0 [] * (Row 4 1 (.slice (some ⟨g, 0, none⟩) n n) n (bools (inL ES k)) * (pts be (.cells #[.slice A n c] 30 (0, 0)) * S))) inferInstance HS2) (by rw [HL0.out]; rfl)⟩
    case round =>
      obtain ⟨i, vv, hi, rfl, rfl, HX, HS3⟩ := hrel
      by_cases hlt : i < n
      · obtain ⟨x, hx⟩ := get_ex (xs := es) (k := i) (by rw [← HN.out]; exact hlt)
        obtain ⟨b0, off, rfl⟩ := r.addr H (j := i) (by rw [cENs_len, ← HN.out]; omega)
        have c3 := r.cell (cENs_get hx).2.2
        have sx := HB.out.small x (List.mem_of_getElem? hx)
        obtain ⟨gi, hgi⟩ := get_ex (xs := inL ES k) (k := i) (by rw [HIL.out]; exact hlt)
        have d1 : CellAt _ g _ _ := Row.cellAt (e := 4) (size := 1) (g := g) (n := n) (c := n) (F := pts be (.cells #[.slice (some ⟨b0, off, none⟩) n c] 30 (0, 0)) * S) (bools_get hgi)
        have HGI := Hd.mk (getDB hgi)
        obtain ⟨A0, c0, rfl, hc0, hc1⟩ := Row.form HS3
        have hll := HLL.out i
        have hln := nats_len (L i)
        have HLNN := Hd.mk hln
        have hl2 : (nats (L i)).length ≤ 12 := by omega
        clear hln
        cases gi
        · have HNX : Hd (L (i + 1) = L i) := ⟨by rw [HLN.out i, HGI.out]; rfl⟩
          clear hx hgi
          go_wp2
          go_roundw
          case rel => exact ⟨i + 1, .slice A0 (nats (L i)).length c0, by omega, by go_num, rfl, inferInstance, SepI.cast inferInstance (by rw [HNX.out])⟩
          case measure => (simp [intOf]; try omega)
        · by_cases hm : x.l.length = 0
          · have HNX : Hd (L (i + 1) = L i ++ [i]) := ⟨by rw [HLN.out i, HGI.out, HST.out i x hx, decide_eq_false (by omega)]; rfl⟩
            rw [hm] at c3
            clear hx hgi
            go_wp2_with (at_builtin; go_must (refine ev_append (v := .slice A0 (nats (L i)).length c0) rfl _ _ 34 rfl rfl 8 _ Try.underlying34 info_int rfl (by decide) (by decide) wr.heap.size 1 1 rfl rfl (by simp [Value.oneCell']) (by omega) ?_); intro v1 w4 HS4 HE4)
            go_roundw
            case rel => exact ⟨i + 1, v1, by omega, by go_num, rfl, inferInstance, SepI.cast (Ent.sep (S := _) (T := Row 3 1 v1 ((nats (L i)).length + 1) (ints (nats (L i)) ++ [.int .i64 i]) * (Row 4 1 (.slice (some ⟨g, 0, none⟩) n n) n (bools (inL ES k)) * (pts be (.cells #[.slice (some ⟨b0, off, none⟩) n c] 30 (0, 0)) * S))) inferInstance HS4) (by rw [HNX.out, nats_snoc, List.length_append, ints_append]; rfl)⟩
            case measure => (simp [intOf]; try omega)
          · have HNX : Hd (L (i + 1) = L i) := ⟨by rw [HLN.out i, HGI.out, HST.out i x hx, decide_eq_true (by omega)]; rfl⟩
            have hm2 : ((x.l.length : Int) == 0) = false := bne_of (by omega)
            clear hx hgi
            go_wp2
            go_roundw
            case rel => exact ⟨i + 1, .slice A0 (nats (L i)).length c0, by omega, by go_num, rfl, inferInstance, SepI.cast inferInstance (by rw [HNX.out])⟩
            case measure => (simp [intOf]; try omega)
      · have : i = n := by omega
        subst this
        obtain ⟨A0, c0, rfl, hc0, hc1⟩ := Row.form HS3
        go_wp2
        go_ret2
        exact IntsOk.of (v := .slice A0 (nats (L i)).length c0) (Post.mk' (Ent.sep (S := _) inferInstance inferInstance) inferInstance)
end Go.Proofs.Ytnmbmdigiaokjaa
