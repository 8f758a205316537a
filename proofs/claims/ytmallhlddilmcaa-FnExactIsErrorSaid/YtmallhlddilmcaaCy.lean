/- CountWays: the reference's way. Conditions: lengths within bounds. -/
import Derived.Test.YtmallhlddilmcaaCx
namespace Go.Proofs.Ytmallhlddilmcaa
open Go.RowKit SL
attribute [local go_sem] cell_blk frozen_blk lt_blk cell_at frozen_row lt_row
set_option linter.unusedVariables false
set_option linter.unusedSimpArgs false

def addW (W : List Int) (a : Int) (l : List Int) : List Int := l.foldl (fun V p => V.set p.toNat (w64 (V.getD p.toNat 0 + a))) W
def fwd (es : List EC) (n : Nat) : Nat → List Int
  | 0 => (List.replicate es.length 0).set n 1
  | m + 1 => addW (fwd es n m) ((fwd es n m).getD (n + m) 0) (partsOf es (n + m))
theorem addW_snoc {W l : List Int} {a p : Int} {j : Nat} (h : l[j]? = some p) : addW W a (l.take (j + 1)) = (addW W a (l.take j)).set p.toNat (w64 ((addW W a (l.take j)).getD p.toNat 0 + a)) := by
  rw [take_succ_eq h]; simp [addW, List.foldl_append]
theorem addW_len (W : List Int) (a : Int) (l : List Int) : (addW W a l).length = W.length := by
  unfold addW
  induction l generalizing W with
  | nil => rfl
  | cons p l ih => rw [List.foldl_cons, ih, List.length_set]
theorem addW_other {W : List Int} {a : Int} {i : Nat} : ∀ {l : List Int}, (∀ p ∈ l, p.toNat ≠ i) → (addW W a l)[i]? = W[i]? := by
  intro l
  unfold addW
  induction l generalizing W with
  | nil => intro _; rfl
  | cons p l ih =>
    intro h
    rw [List.foldl_cons, ih (fun q hq => h q (List.mem_cons_of_mem _ hq)), List.getElem?_set_ne (h p (List.mem_cons_self ..))]
theorem fwd_len (es : List EC) (n m : Nat) : (fwd es n m).length = es.length := by
  induction m with
  | zero => simp [fwd]
  | succ m ih => rw [fwd, addW_len, ih]
theorem hasB_two' (es : List EC) (n t : Int) : hasB es [n, t] = (hasB es [n] && hasB es [t]) := by
  unfold hasB
  simp only [List.all_cons, List.all_nil, Bool.and_true]
  cases errsB es <;> simp

/-- What the reference's CountWays answers. -/
def waysRef (es : List EC) (n t : Int) : Int := if hasB es [n, t] then (fwd es n.toNat (es.length - n.toNat)).getD t.toNat 0 else 0

set_option maxRecDepth 100000 in
set_option maxHeartbeats 8000000 in
theorem spec_CountWays' (S : HP) (w : World) [H : SepI w S] (A : Option Addr) (c : Nat) (es : List EN) [r : Rd S A (cENs es)] [B : Nodes S es] (a b : Int) :
    Calls Try.prog 36 #[.agg #[.slice A es.length c], .int .i64 a, .int .i64 b] w fun e w' => e = two (.int .i64 (waysRef (es.map ecOf) a b)) (.bool (hasB (es.map ecOf) [a, b])) ∧ Post w S w' := by
  obtain ⟨ok, hok⟩ : ∃ ok, hasB (es.map ecOf) [a, b] = ok := ⟨_, rfl⟩
  have HOK := Hd.mk hok
  rw [hok]
  obtain ⟨o1, ho1⟩ : ∃ o1, hasB (es.map ecOf) [a] = o1 := ⟨_, rfl⟩
  obtain ⟨o2, ho2⟩ : ∃ o2, hasB (es.map ecOf) [b] = o2 := ⟨_, rfl⟩
  rw [hasB_two', ho1, ho2] at hok
  have HO1 := Hd.mk ho1
  have HO2 := Hd.mk ho2
  have hn := B.n
  have HB := Hd.mk B
  clear ho1 ho2
  cases o1
  · subst hok
    have hans : waysRef (es.map ecOf) a b = 0 := by unfold waysRef; rw [HOK.out]; rfl
    rw [hans]
    clear hans
    go_enter Try.func36, Try.ntmps36
    go_wp2_with fail
    refine (spec_l6One _ _ _ _ es _ _ HO1.out).mono ?_
    rintro e w1 ⟨rfl, HP⟩
    have HS1 := HP.sep
    have HE1 := HP.ext
    clear HP
    go_wp2
    go_ret2
    exact ⟨rfl, Post.mk' (Ent.sep (S := _) inferInstance inferInstance) inferInstance⟩
  cases o2
  · subst hok
    have hans : waysRef (es.map ecOf) a b = 0 := by unfold waysRef; rw [HOK.out]; rfl
    rw [hans]
    clear hans
    go_enter Try.func36, Try.ntmps36
    go_wp2_with fail
    refine (spec_l6One _ _ _ _ es _ _ HO1.out).mono ?_
    rintro e w1 ⟨rfl, HP⟩
    have HS1 := HP.sep
    have HE1 := HP.ext
    clear HP
    go_wp2_with fail
    refine (spec_l6One _ _ _ _ es _ _ HO2.out).mono ?_
    rintro e w2 ⟨rfl, HP⟩
    have HS2 := HP.sep
    have HE2 := HP.ext
    clear HP
    go_wp2
    go_ret2
    exact ⟨rfl, Post.mk' (Ent.sep (S := _) inferInstance inferInstance) inferInstance⟩
  · subst hok
    obtain ⟨hv, ⟨k, rfl, hk⟩, t, rfl, ht⟩ := hasB_two HOK.out
    obtain ⟨ES, hES⟩ : ∃ ES, ES = es.map ecOf := ⟨_, rfl⟩
    obtain ⟨v, hd⟩ := get_ex (xs := fwd (es.map ecOf) k ((es.map ecOf).length - k)) (k := t) (by rw [fwd_len]; exact ht)
    have hans : waysRef (es.map ecOf) k t = v := by unfold waysRef; rw [HOK.out, if_pos (by rfl), Int.toNat_natCast, Int.toNat_natCast, getD_of hd]
    rw [hans]
    have HV := Hd.mk hv
    have HD := Hd.mk hd
    rw [List.length_map] at hk ht
    have HSM := small_of hv
    rw [List.length_map] at HSM
    clear hans hv hd hn hES
    obtain ⟨n, hn⟩ : ∃ n, n = es.length := ⟨_, rfl⟩
    have HN := Hd.mk hn
    go_enter Try.func36, Try.ntmps36
    obtain ⟨be, hbe⟩ : ∃ be, be = w.heap.size := ⟨_, rfl⟩
    go_wp2_with fail
    refine (spec_l6One _ _ _ _ es _ _ HO1.out).mono ?_
    rintro e w0 ⟨rfl, HP⟩
    have HS0 := HP.sep
    have HE0 := HP.ext
    clear HP
    go_wp2_with fail
    refine (spec_l6One _ _ _ _ es _ _ HO2.out).mono ?_
    rintro e w1 ⟨rfl, HP⟩
    have HS1 := HP.sep
    have HE1 := HP.ext
    clear HP
    rw [← hbe] at HS1
    rw [← hbe, ← hn]
    rw [← hn] at HS1 HSM hk ht
    clear hbe hn
    go_wp2_with (refine ev_make rfl 62 _ _ rfl n rfl rfl 3 1 8 _ Try.underlying62 info_int rfl (by decide) (by decide) (by omega) ?_; rw [ints_zeros]; intro b w2 HS2 HE2; have dz : CellAt _ b _ _ := Row.cellAt (e := 3) (size := 1) (g := b) (n := n) (c := n) (F := pts be (.cells #[.slice A n c] 40 (0, 0)) * S) (j := k) (v := .int .i64 0) (ints_get (by rw [List.getElem?_replicate, if_pos hk])))
    go_loopw [9] (fun i wr => ∃ (q : Nat), k ≤ q ∧ q ≤ n ∧ i = .int .i64 q ∧ ExtI w wr ∧
      SepI wr (Row 3 1 (.slice (some ⟨b, 0, none⟩) n n) n (ints (fwd (es.map ecOf) k (q - k))) * (pts be (.cells #[.slice A n c] 40 (0, 0)) * S))) (fun i _ => n - (intOf i).toNat)
    case atStart => exact ⟨k, Nat.le_refl _, by omega, rfl, inferInstance, SepI.cast inferInstance (by rw [Nat.sub_self, ints_set, fwd, List.length_map, ← HN.out])⟩
    case round =>
      obtain ⟨i, hki, hi, rfl, HX, HS⟩ := hrel
      by_cases hlt : i < n
      · obtain ⟨ways, hkn⟩ : ∃ ways, ways = fwd (es.map ecOf) k (i - k) := ⟨_, rfl⟩
        rw [← hkn] at HS
        have HKN := Hd.mk hkn
        have HLN : Hd (ways.length = n) := ⟨by rw [hkn, fwd_len, List.length_map, HN.out]⟩
        clear hkn
        obtain ⟨x, hx⟩ := get_ex (xs := es) (k := i) (by rw [← HN.out]; omega)
        obtain ⟨b0, off, rfl⟩ := r.addr H (j := i) (by rw [cENs_len, ← HN.out]; omega)
        have c1 := r.cell (cENs_get hx).1
        have c2 := r.cell (cENs_get hx).2.1
        have c3 := r.cell (cENs_get hx).2.2
        have rx := HB.out.rd x (List.mem_of_getElem? hx)
        have sx := HB.out.small x (List.mem_of_getElem? hx)
        obtain ⟨z, hz⟩ := get_ex (xs := ways) (k := i) (by rw [HLN.out]; omega)
        have HZ := Hd.mk hz
        have HXX := Hd.mk hx
        obtain ⟨m, hm⟩ : ∃ m, m = x.l.length := ⟨_, rfl⟩
        obtain ⟨p, hp⟩ : ∃ p, p = x.p := ⟨_, rfl⟩
        have HM := Hd.mk hm
        have HPX := Hd.mk hp
        rw [← hp] at rx
        rw [← hp, ← hm] at c3
        rw [← hm] at sx
        clear hx hz hm hp
        go_wp2
        go_loopw [10] (fun v wq => ∃ j : Nat, j ≤ m ∧ v = .int .i64 j ∧ ExtI w wq ∧
          SepI wq (Row 3 1 (.slice (some ⟨b, 0, none⟩) n n) n (ints (addW ways z (x.l.take j))) * (pts be (.cells #[.slice (some ⟨b0, off, none⟩) n c] 40 (0, 0)) * S))) (fun v _ => m - (intOf v).toNat)
        case atStart => exact ⟨0, Nat.zero_le _, rfl, inferInstance, inferInstance⟩
        case round =>
          obtain ⟨j, hj, rfl, HX2, HS3⟩ := hrel
          by_cases hlt2 : j < m
          · obtain ⟨y, hy⟩ := get_ex (xs := x.l) (k := j) (by rw [← HM.out]; exact hlt2)
            obtain ⟨u, rfl, hu1, hu2⟩ := part_at HV.out (k := i) (x := ecOf x) (by rw [List.getElem?_map, HXX.out]; rfl) hy
            rw [List.length_map, ← HN.out] at hu2
            obtain ⟨bp, op, rfl⟩ := rx.addr H (j := j) (by rw [ints_len, ← HM.out]; omega)
            have c4 := rx.cell (ints_get hy)
            obtain ⟨v2, hv2⟩ := get_ex (xs := addW ways z (x.l.take j)) (k := u) (by rw [addW_len, HLN.out]; exact hu2)
            have hv4 : (addW ways z (x.l.take j))[i]? = some z := by
              rw [addW_other (fun p hp => ?_)]
              · exact HZ.out
              · obtain ⟨j2, hj2⟩ := List.mem_iff_getElem?.1 (List.mem_of_mem_take hp)
                obtain ⟨u2, rfl, h1, h2⟩ := part_at HV.out (k := i) (x := ecOf x) (by rw [List.getElem?_map, HXX.out]; rfl) hj2
                rw [Int.toNat_natCast]; omega
            have d2 : CellAt _ b _ _ := Row.cellAt (e := 3) (size := 1) (g := b) (n := n) (c := n) (F := pts be (.cells #[.slice (some ⟨b0, off, none⟩) n c] 40 (0, 0)) * S) (ints_get hv2)
            have d3 : CellAt _ b _ _ := Row.cellAt (e := 3) (size := 1) (g := b) (n := n) (c := n) (F := pts be (.cells #[.slice (some ⟨b0, off, none⟩) n c] 40 (0, 0)) * S) (ints_get hv4)
            have HY := Hd.mk (addW_snoc (W := ways) (a := z) hy)
            have HG := Hd.mk (getD_of hv2)
            clear hy hv2 hv4
            go_wp2
            go_still_tail 28, (by kernel_rfl)
            change wpList _ _ _ _ _ wr.drew
            go_wp2
            go_roundw
            case rel => exact ⟨j + 1, by omega, by go_num, inferInstance, SepI.cast inferInstance (by rw [ints_set, HY.out, Int.toNat_natCast, HG.out])⟩
            case measure => simp [intOf]; omega
          · have : j = m := by omega
            subst this
            go_wp2
            go_roundw
            case rel => exact ⟨i + 1, by omega, by omega, by go_num, inferInstance, SepI.cast inferInstance (by
              rw [show i + 1 - k = (i - k) + 1 from by omega, fwd, ← HKN.out, show k + (i - k) = i from by omega, HM.out, List.take_length, getD_of HZ.out]
              unfold partsOf
              rw [List.getD_eq_getElem?_getD, List.getElem?_map, HXX.out]; rfl)⟩
            case measure => simp [intOf]; omega
      · have : i = n := by omega
        subst this
        have d1 : CellAt _ b _ _ := Row.cellAt (e := 3) (size := 1) (g := b) (n := i) (c := i) (F := (pts be (.cells #[.slice A i c] 40 (0, 0)) * S)) (j := t) (v := .int .i64 v) (ints_get (by have := HD.out; rw [List.length_map, ← HN.out] at this; exact this))
        go_wp2
        go_ret2
        exact ⟨rfl, Post.mk' (Ent.sep (S := _) inferInstance inferInstance) inferInstance⟩
end Go.Proofs.Ytmallhlddilmcaa
