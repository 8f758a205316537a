/- ServesAs by the reference. Conditions: lengths within bounds. -/
import Derived.Test.YtnmbmdigiaokjaaVb
namespace Go.Proofs.Ytnmbmdigiaokjaa
open Go.RowKit SL
attribute [local go_sem] cell_blk frozen_blk lt_blk cell_at frozen_row lt_row
set_option linter.unusedVariables false
set_option linter.unusedSimpArgs false

/-- The first that serves, by its place. -/
theorem find_place {α : Type} {p : α → Bool} : ∀ {l : List α} {x : α}, l.find? p = some x → ∃ i : Nat, l[i]? = some x ∧ p x = true ∧ ∀ (j : Nat) y, j < i → l[j]? = some y → p y = false
  | [], x, h => by cases h
  | y :: l, x, h => by
    rw [List.find?_cons] at h
    cases hy : p y with
    | true =>
      rw [hy] at h
      injection h with h
      subst h
      exact ⟨0, rfl, hy, fun j y hj => by omega⟩
    | false =>
      rw [hy] at h
      obtain ⟨i, h1, h2, h3⟩ := find_place h
      refine ⟨i + 1, h1, h2, fun j z hj hz => ?_⟩
      cases j with
      | zero => simp at hz; subst hz; exact hy
      | succ j => exact h3 j z (by omega) hz
/-- The next error down. -/
theorem down_next {es : List EC} (hv : errsB es = true) {kind : Int} {d k : Nat} (hk : k < es.length) (hc : canB es kind k = true) (hb : kB es kind k = false) :
    ∃ p i, (partsN es k)[i]? = some p ∧ canB es kind p = true ∧ (∀ (j : Nat) y, j < i → (partsN es k)[j]? = some y → canB es kind y = false) ∧ downF es kind (d + 1) k = downF es kind d p := by
  rw [canB_eq hv hk, hb, Bool.false_or] at hc
  cases hf : (partsN es k).find? (canB es kind) with
  | none =>
    obtain ⟨x, hx, hxc⟩ := List.any_eq_true.1 hc
    exact absurd hxc ((List.find?_eq_none.1 hf) x hx)
  | some p =>
    obtain ⟨i, h1, h2, h3⟩ := find_place hf
    exact ⟨p, i, h1, h2, h3, by rw [downF, hb, if_neg Bool.false_ne_true, hf]⟩
theorem down_here {es : List EC} {kind : Int} {d k : Nat} (hb : kB es kind k = true) : downF es kind d k = k := by
  cases d with
  | zero => rfl
  | succ d => rw [downF, if_pos hb]

set_option maxRecDepth 100000 in
set_option maxHeartbeats 2000000 in
theorem spec_ServesAs (S : HP) (w : World) [H : SepI w S] (A : Option Addr) (c : Nat) (es : List EN) [r : Rd S A (cENs es)] [B : Nodes S es] (a b : Int) :
    Calls Try.prog 14 #[.agg #[.slice A es.length c], .int .i64 a, .int .i64 b] w fun e w' => e = two (.int .i64 (servAns (es.map ecOf) a b)) (.bool (servOk (es.map ecOf) a b)) ∧ Post w S w' := by
  obtain ⟨ok, hok⟩ : ∃ ok, hasB (es.map ecOf) [a] = ok := ⟨_, rfl⟩
  have HOK := Hd.mk hok
  have hn := B.n
  have HB := Hd.mk B
  clear hok
  cases ok
  · have hans := serv_not (kind := b) HOK.out
    rw [hans.1, hans.2]
    clear hans
    go_enter Try.func14, Try.ntmps14
    go_wp2_with fail
    refine (spec_l6One _ _ _ _ es _ _ HOK.out).mono ?_
    rintro e w1 ⟨rfl, HP⟩
    have HS1 := HP.sep
    have HE1 := HP.ext
    clear HP
    go_wp2
    go_ret2
    exact ⟨rfl, Post.mk' (Ent.sep (S := _) inferInstance inferInstance) inferInstance⟩
  obtain ⟨hv, k, rfl, hk⟩ := hasB_one HOK.out
  have hkm := hk
  rw [List.length_map] at hk
  have hsm := small_of hv
  rw [List.length_map] at hsm
  have HV := Hd.mk hv
  have HB := Hd.mk B
  obtain ⟨o2, ho2⟩ : ∃ o2, inB b 1 4 = o2 := ⟨_, rfl⟩
  have HO2 := Hd.mk ho2
  obtain ⟨cn, hcn⟩ : ∃ cn, canB (es.map ecOf) b k = cn := ⟨_, rfl⟩
  have HCN := Hd.mk hcn
  have hov : servOk (es.map ecOf) k b = cn := by unfold servOk; rw [HOK.out, Int.toNat_natCast, hcn]; rfl
  have HAV : Hd (servAns (es.map ecOf) k b = if cn then ((downF (es.map ecOf) b es.length k : Nat) : Int) else 0) := ⟨by unfold servAns; rw [hov, Int.toNat_natCast, List.length_map]⟩
  rw [hov]
  clear ho2 hcn hov
  cases o2
  · have hcf : cn = false := by
      cases cn with
      | false => rfl
      | true => have := can_kind hv hkm HCN.out; rw [HO2.out] at this; cases this
    subst hcf
    rw [HAV.out, if_neg Bool.false_ne_true]
    clear hkm hk hv
    go_enter Try.func14, Try.ntmps14
    go_wp2_with fail
    refine (spec_l6One _ _ _ _ es _ _ HOK.out).mono ?_
    rintro e w1 ⟨rfl, HP⟩
    have HS1 := HP.sep
    have HE1 := HP.ext
    clear HP
    go_wp2_with fail
    refine (spec_in _ _ _ _ _ HO2.out).mono ?_
    rintro e w2 ⟨rfl, rfl⟩
    go_wp2
    go_ret2
    exact ⟨rfl, Post.mk' (Ent.sep (S := _) inferInstance inferInstance) inferInstance⟩
  obtain ⟨n, hn'⟩ : ∃ n, n = es.length := ⟨_, rfl⟩
  have HN := Hd.mk hn'
  obtain ⟨ES, hES⟩ : ∃ ES, ES = es.map ecOf := ⟨_, rfl⟩
  have HES := Hd.mk hES
  have HEL : Hd (n = ES.length) := ⟨by rw [hES, List.length_map, hn']⟩
  have HPT : Hd (∀ i x, es[i]? = some x → partsN ES i = x.l.map Int.toNat) := ⟨fun i x hx => by rw [hES]; exact partsN_of hx⟩
  have HKA : Hd (∀ i x, es[i]? = some x → kB ES b i = (x.k == b)) := ⟨fun i x hx => by unfold kB kindAt; rw [hES, List.getD_eq_getElem?_getD, List.getElem?_map, hx]; rfl⟩
  have HVE : Hd (errsB ES = true) := ⟨by rw [hES]; exact hv⟩
  have HCL : Hd (∀ u, u < n → (canL ES b 0)[u]? = some (canB ES b u)) := ⟨fun u hu => canL_get b (Nat.zero_le _) (by rw [← HEL.out]; exact hu)⟩
  have HPN : Hd (∀ i p, p ∈ partsN ES i → i < p ∧ p < n) := ⟨fun i p hp => by have := partsN_lt HVE.out hp; rw [← HEL.out] at this; exact this⟩
  rw [← hES] at HCN HAV ⊢
  rw [← hn'] at hk hsm HAV
  obtain ⟨av, hav⟩ : ∃ av, servAns ES k b = av := ⟨_, rfl⟩
  rw [hav] at HAV ⊢
  clear hkm hv hn' hES hn hav
  go_enter Try.func14, Try.ntmps14
  obtain ⟨be, hbe⟩ : ∃ be, be = w.heap.size := ⟨_, rfl⟩
  go_wp2_with fail
  refine (spec_l6One _ _ _ _ es _ _ HOK.out).mono ?_
  rintro e w1 ⟨rfl, HP⟩
  have HS1 := HP.sep
  have HE1 := HP.ext
  clear HP
  rw [← hbe] at HS1 ⊢
  clear hbe
  go_wp2_with fail
  refine (spec_in _ _ _ _ _ HO2.out).mono ?_
  rintro e w2 ⟨rfl, rfl⟩
  go_wp2_with fail
  refine (spec_l6Kinds _ _ _ _ es HV.out b).mono ?_
  rintro e w2 ⟨g, rfl, HP⟩
  rw [← HES.out, ← HN.out] at HP
  have HS2 := HP.sep
  have HE2 := HP.ext
  clear HP HS1
  rw [← HN.out]
  have d0 : CellAt _ g _ _ := Row.cellAt (e := 4) (size := 1) (g := g) (n := n) (c := n) (F := pts be (.cells #[.slice A n c] 30 (0, 0)) * S) (j := k) (v := .bool cn) (bools_get (l := canL ES b 0) (by rw [HCL.out k hk, HCN.out]))
  have hst : SepI w2 (Row 4 1 (.slice (some ⟨g, 0, none⟩) n n) n (bools (canL ES b 0)) * (pts be (.cells #[.slice A n c] 30 (0, 0)) * S)) := by rw [HN.out] at HS2 ⊢; exact HS2
  clear HS2
  cases cn
  · have hav := HAV.out
    rw [if_neg Bool.false_ne_true] at hav
    subst hav
    go_wp2
    go_ret2
    exact ⟨rfl, Post.mk' (Ent.sep (S := _) inferInstance inferInstance) inferInstance⟩
  · have hav := HAV.out
    rw [if_pos rfl] at hav
    have HAV2 := Hd.mk hav
    clear hav
    go_wp2
    clear d0
    go_loopw [1] (fun v wr => ∃ d q : Nat, n ≤ d + q ∧ q < n ∧ v = .int .i64 q ∧ Hd (canB ES b q = true) ∧ Hd (av = ((downF ES b d q : Nat) : Int)) ∧ ExtI w wr ∧ SepI wr (Row 4 1 (.slice (some ⟨g, 0, none⟩) n n) n (bools (canL ES b 0)) * (pts be (.cells #[.slice A n c] 30 (0, 0)) * S))) (fun v _ => n - (intOf v).toNat)
    case atStart => exact ⟨n, k, by omega, hk, rfl, HCN, HAV2, inferInstance, hst⟩
    case round =>
      obtain ⟨d, q, hd, hq, rfl, HC, HA, HX, HS3⟩ := hrel
      obtain ⟨x, hx⟩ := get_ex (xs := es) (k := q) (by rw [← HN.out]; exact hq)
      obtain ⟨b0, off, rfl⟩ := r.addr H (j := q) (by rw [cENs_len, ← HN.out]; omega)
      have c1 := r.cell (cENs_get hx).1
      have c3 := r.cell (cENs_get hx).2.2
      have rx := HB.out.rd x (List.mem_of_getElem? hx)
      have sx := HB.out.small x (List.mem_of_getElem? hx)
      obtain ⟨t, ht⟩ : ∃ t, (x.k == b) = t := ⟨_, rfl⟩
      have HT : Hd (kB ES b q = t) := ⟨by rw [HKA.out q x hx, ht]⟩
      have hne : (x.k != b) = !t := by rw [← ht]; rfl
      cases t
      · obtain ⟨d, rfl⟩ : ∃ d', d = d' + 1 := ⟨d - 1, by omega⟩
        obtain ⟨p, i0, hp1, hp2, hp3, hp4⟩ := down_next HVE.out (d := d) (by rw [← HEL.out]; exact hq) HC.out HT.out
        obtain ⟨ps, hps⟩ : ∃ ps, ps = partsN ES q := ⟨_, rfl⟩
        rw [← hps] at hp1 hp3
        have hpx : ps = x.l.map Int.toNat := by rw [hps]; exact HPT.out q x hx
        have HPR : Hd (∀ u ∈ ps, q < u ∧ u < n) := ⟨fun u hu => HPN.out q u (by rw [← hps]; exact hu)⟩
        obtain ⟨m, hm⟩ : ∃ m, m = x.l.length := ⟨_, rfl⟩
        have hi0 : i0 < m := by
          have := (List.getElem?_eq_some_iff.1 hp1).1
          rw [hpx, List.length_map, ← hm] at this; exact this
        obtain ⟨pp, hpp⟩ : ∃ pp, pp = x.p := ⟨_, rfl⟩
        rw [← hpp] at rx
        rw [← hpp, ← hm] at c3
        rw [← hm] at sx
        have HA2 : Hd (av = ((downF ES b d p : Nat) : Int)) := ⟨by rw [HA.out, hp4]⟩
        have HPX := Hd.mk hpx
        have HM := Hd.mk hm
        have HP1 := Hd.mk hp1
        have HP2 := Hd.mk hp2
        have HP3 := Hd.mk hp3
        have hlp := HPR.out p (List.mem_of_getElem? hp1)
        obtain ⟨bp, op, rfl⟩ := rx.addr H (j := i0) (by rw [ints_len, ← HM.out]; omega)
        clear hx hps hpx hm hpp hp1 hp2 hp3 hp4
        rw [Bool.not_false] at hne
        go_wp2
        clear ht hne
        go_loopw [9] (fun v wq => ∃ i : Nat, i ≤ i0 ∧ v = .int .i64 i ∧ ExtI w wq ∧ SepI wq (Row 4 1 (.slice (some ⟨g, 0, none⟩) n n) n (bools (canL ES b 0)) * (pts be (.cells #[.slice (some ⟨b0, off, none⟩) n c] 30 (0, 0)) * S))) (fun v _ => m - (intOf v).toNat)
        case atStart => exact ⟨0, Nat.zero_le _, rfl, inferInstance, inferInstance⟩
        case round =>
          obtain ⟨i, hi, rfl, HX2, HS4⟩ := hrel
          have him : i < m := by omega
          obtain ⟨y, hy⟩ := get_ex (xs := x.l) (k := i) (by rw [← HM.out]; exact him)
          have hpy : ps[i]? = some y.toNat := by rw [HPX.out, List.getElem?_map, hy]; rfl
          have hyr := HPR.out _ (List.mem_of_getElem? hpy)
          obtain ⟨u, rfl⟩ : ∃ u : Nat, y = (u : Int) := ⟨y.toNat, by omega⟩
          rw [Int.toNat_natCast] at hpy hyr
          have c4 := rx.cell (ints_get hy)
          have hu2 := hyr.2
          obtain ⟨cu, hcu⟩ : ∃ cu, canB ES b u = cu := ⟨_, rfl⟩
          have d2 : CellAt _ g _ _ := Row.cellAt (e := 4) (size := 1) (g := g) (n := n) (c := n) (F := pts be (.cells #[.slice (some ⟨b0, off, none⟩) n c] 30 (0, 0)) * S) (j := u) (v := .bool cu) (bools_get (l := canL ES b 0) (by rw [HCL.out u hu2, hcu]))
          by_cases hlt : i < i0
          · have hcf : cu = false := by rw [← hcu]; exact HP3.out i u hlt hpy
            subst hcf
            clear hy hpy hyr hcu
            go_wp2
            go_roundw
            case rel => exact ⟨i + 1, by omega, by go_num, inferInstance, inferInstance⟩
            case measure => (simp [intOf]; try omega)
          · have hii : i = i0 := by omega
            subst hii
            have hup : u = p := by have := HP1.out; rw [hpy] at this; injection this
            subst hup
            have hcf : cu = true := by rw [← hcu]; exact HP2.out
            subst hcf
            clear hy hpy hyr hcu
            go_wp2
            go_roundw
            case rel => exact ⟨d, u, by omega, hu2, rfl, HP2, HA2, inferInstance, inferInstance⟩
            case measure => (simp [intOf]; try omega)
      · have hav : av = (q : Int) := by rw [HA.out, down_here HT.out]
        subst hav
        clear hx
        rw [Bool.not_true] at hne
        go_wp2
        go_ret2
        exact ⟨rfl, Post.mk' (Ent.sep (S := _) inferInstance inferInstance) inferInstance⟩
end Go.Proofs.Ytnmbmdigiaokjaa
