/- ServesAs by the program. Conditions: lengths within bounds. -/
import Derived.Test.YtnmbmdigiaokjaaVa
import Derived.Test.YtnmbmdigiaokjaaDf
namespace Go.Proofs.Ytnmbmdigiaokjaa
open Go.RowKit SL
attribute [local go_sem] cell_blk frozen_blk lt_blk cell_at frozen_row lt_row
set_option linter.unusedVariables false
set_option linter.unusedSimpArgs false

def servOk (es : List EC) (a kind : Int) : Bool := hasB es [a] && canB es kind a.toNat
def servAns (es : List EC) (a kind : Int) : Int := if servOk es a kind then (downF es kind es.length a.toNat : Nat) else 0
theorem find_at {α : Type} {p : α → Bool} {l : List α} {i : Nat} {x : α} (h0 : (l.take i).find? p = none) (h : l[i]? = some x) (hx : p x = true) : l.find? p = some x := by
  have e : l = l.take i ++ (x :: l.drop (i + 1)) := by
    obtain ⟨hi, rfl⟩ := List.getElem?_eq_some_iff.1 h
    rw [← List.drop_eq_getElem_cons hi, List.take_append_drop]
  rw [e, List.find?_append, h0, List.find?_cons, hx]; rfl
theorem find_pass {α : Type} {p : α → Bool} {l : List α} {i : Nat} {x : α} (h0 : (l.take i).find? p = none) (h : l[i]? = some x) (hx : p x = false) : (l.take (i + 1)).find? p = none := by
  rw [take_succ_eq h, List.find?_append, h0, List.find?_cons, hx]; rfl
theorem serv_hit {es : List EC} {k : Nat} {kind : Int} {u : Nat} (h : hasB es [(k : Int)] = true) (hv : errsB es = true) (hk : k < es.length) (hf : (found es k).find? (kB es kind) = some u) : servOk es k kind = true ∧ servAns es k kind = u := by
  rw [serves_eq hv kind hk] at hf
  split at hf
  · rename_i hc
    injection hf with hf
    have h1 : servOk es k kind = true := by unfold servOk; rw [h, Int.toNat_natCast, hc]; rfl
    exact ⟨h1, by unfold servAns; rw [h1, if_pos rfl, Int.toNat_natCast, hf]⟩
  · cases hf
theorem serv_miss {es : List EC} {k : Nat} {kind : Int} (h : hasB es [(k : Int)] = true) (hv : errsB es = true) (hk : k < es.length) (hf : (found es k).find? (kB es kind) = none) : servOk es k kind = false ∧ servAns es k kind = 0 := by
  rw [serves_eq hv kind hk] at hf
  split at hf
  · cases hf
  · rename_i hc
    have h1 : servOk es k kind = false := by unfold servOk; rw [h, Int.toNat_natCast]; simpa using hc
    exact ⟨h1, by unfold servAns; rw [h1, if_neg Bool.false_ne_true]⟩
theorem serv_not {es : List EC} {a kind : Int} (h : hasB es [a] = false) : servOk es a kind = false ∧ servAns es a kind = 0 := by
  have h1 : servOk es a kind = false := by unfold servOk; rw [h]; rfl
  exact ⟨h1, by unfold servAns; rw [h1, if_neg Bool.false_ne_true]⟩
theorem can_kind {es : List EC} (hv : errsB es = true) {k : Nat} {kind : Int} (hk : k < es.length) (h : canB es kind k = true) : inB kind 1 4 = true := by
  obtain ⟨q, hq, hb⟩ := (canB_iff hv hk).1 h
  have hl := hq.lt hv hk
  obtain ⟨x, hx⟩ := get_ex (xs := es) (k := q) hl
  have hv' := hv
  unfold errsB at hv'
  simp only [Bool.and_eq_true] at hv'
  have h1 := nodesB_at hv'.2 hx
  unfold nodeB at h1
  simp only [Bool.and_eq_true] at h1
  have h2 := h1.1
  unfold kB kindAt at hb
  rw [List.getD_eq_getElem?_getD, hx] at hb
  have e : x.1 = kind := by simpa using hb
  unfold kindB at h2
  rw [e] at h2
  have h3 : kind = 1 ∨ kind = 2 ∨ kind = 3 ∨ kind = 4 := by
    split at h2
    · omega
    · split at h2
      · omega
      · split at h2
        · omega
        · cases h2
  unfold inB
  rcases h3 with rfl | rfl | rfl | rfl <;> rfl

set_option maxRecDepth 100000 in
set_option maxHeartbeats 2000000 in
theorem impl_ServesAs (S : HP) (w : World) [H : SepI w S] (A : Option Addr) (c : Nat) (es : List EN) [r : Rd S A (cENs es)] [B : Nodes S es] (a b : Int) :
    Calls Try.prog 16 #[.agg #[.slice A es.length c], .int .i64 a, .int .i64 b] w fun e w' => e = two (.int .i64 (servAns (es.map ecOf) a b)) (.bool (servOk (es.map ecOf) a b)) ∧ Post w S w' := by
  obtain ⟨ok, hok⟩ : ∃ ok, hasB (es.map ecOf) [a] = ok := ⟨_, rfl⟩
  have HOK := Hd.mk hok
  have hn := B.n
  have HB := Hd.mk B
  clear hok
  cases ok
  · have hans := serv_not (kind := b) HOK.out
    rw [hans.1, hans.2]
    clear hans
    go_enter Try.func16, Try.ntmps16
    go_wp2_with fail
    refine (impl_has _ _ _ _ es _ 1 [a] (rl := rd_one a) (by simp) _ HOK.out).mono ?_
    rintro e w1 ⟨rfl, HP⟩
    have HS1 := HP.sep
    have HE1 := HP.ext
    clear HP
    go_wp2
    go_ret2
    exact ⟨rfl, Post.mk' (Ent.sep (S := _) inferInstance inferInstance) inferInstance⟩
  · obtain ⟨hv, k, rfl, hk⟩ := hasB_one HOK.out
    have hkm := hk
    rw [List.length_map] at hk
    have hsm := small_of hv
    have HV := Hd.mk hv
    have HK := Hd.mk hk
    obtain ⟨fl, hfl⟩ : ∃ fl, fl = found (es.map ecOf) k := ⟨_, rfl⟩
    have HFL : Hd (∀ u ∈ fl, u < es.length) := ⟨fun u hu => by
      have := ((mem_found hv hkm u).1 (by rw [← hfl]; exact hu)).lt hv hkm
      rwa [List.length_map] at this⟩
    have HHIT : Hd (∀ u, fl.find? (kB (es.map ecOf) b) = some u → servOk (es.map ecOf) k b = true ∧ servAns (es.map ecOf) k b = u) := ⟨fun u h => serv_hit HOK.out hv hkm (by rw [← hfl]; exact h)⟩
    have HMISS : Hd (fl.find? (kB (es.map ecOf) b) = none → servOk (es.map ecOf) k b = false ∧ servAns (es.map ecOf) k b = 0) := ⟨fun h => serv_miss HOK.out hv hkm (by rw [← hfl]; exact h)⟩
    obtain ⟨ov, hov⟩ : ∃ ov, servOk (es.map ecOf) k b = ov := ⟨_, rfl⟩
    obtain ⟨av, hav⟩ : ∃ av, servAns (es.map ecOf) k b = av := ⟨_, rfl⟩
    rw [hov, hav] at HHIT HMISS ⊢
    have HKA : Hd (∀ i x, es[i]? = some x → kB (es.map ecOf) b i = (x.k == b)) := ⟨fun i x hx => by unfold kB kindAt; rw [List.getD_eq_getElem?_getD, List.getElem?_map, hx]; rfl⟩
    have hfn : fl.length ≤ 12 := by
      have := (foundF_FI hv (es.map ecOf).length k [] hkm ⟨by simp, fun x hx => by cases hx⟩).len
      rw [hfl]; unfold found; rw [List.length_map] at this hsm; rw [List.length_map]; omega
    have HFD := Hd.mk hfl
    rw [List.length_map] at hsm
    obtain ⟨m, hm⟩ : ∃ m, m = fl.length := ⟨_, rfl⟩
    have HM := Hd.mk hm
    rw [← hm] at hfn
    clear hkm hk hv hn hfl hm hov hav
    go_enter Try.func16, Try.ntmps16
    obtain ⟨be, hbe⟩ : ∃ be, be = w.heap.size := ⟨_, rfl⟩
    go_wp2_with fail
    refine (impl_has _ _ _ _ es _ 1 [(k : Int)] (rl := rd_one (k : Int)) (by simp) _ HOK.out).mono ?_
    rintro e w1 ⟨rfl, HP⟩
    have HS1 := HP.sep
    have HE1 := HP.ext
    clear HP
    rw [← hbe] at HS1 ⊢
    clear hbe
    go_wp2_with fail
    refine (impl_found _ c es HV.out (es.map ecOf).length _ _ (.slice none 0 0) [] k (Row.nil0 HS1 3 1) inferInstance inferInstance (by rw [List.length_map]; omega) HK.out ⟨by simp, fun x hx => by cases hx⟩).mono ?_
    rintro e w2 ⟨v2, rfl, HP⟩
    rw [show foundF (es.map ecOf) (es.map ecOf).length [] k = fl from HFD.out.symm, nats_len, ← HM.out] at HP
    have HS2 := HP.sep
    have HE2 := HP.ext
    clear HP HS1
    obtain ⟨A2, c2, rfl, hc1, hc2⟩ := Row.form HS2
    go_wp2
    go_loopw [19] (fun v wr => ∃ i : Nat, i ≤ m ∧ v = .int .i64 i ∧ Hd ((fl.take i).find? (kB (es.map ecOf) b) = none) ∧ ExtI w wr ∧ SepI wr (Row 3 1 (.slice A2 m c2) m (ints (nats fl)) * (pts be (.cells #[.slice A es.length c] 30 (0, 0)) * S))) (fun v _ => m - (intOf v).toNat)
    case atStart => exact ⟨0, Nat.zero_le _, rfl, ⟨rfl⟩, inferInstance, SepI.cast (Ent.sep (S := _) (T := Row 3 1 (.slice A2 m c2) m (ints (nats fl)) * (pts be (.cells #[.slice A es.length c] 30 (0, 0)) * S)) inferInstance HS2) rfl⟩
    case round =>
      obtain ⟨i, hi, rfl, HT, HX, HS3⟩ := hrel
      by_cases hlt : i < m
      · obtain ⟨u, hu⟩ := get_ex (xs := fl) (k := i) (by rw [← HM.out]; exact hlt)
        have hun := HFL.out u (List.mem_of_getElem? hu)
        obtain ⟨x, hx⟩ := get_ex (xs := es) (k := u) hun
        obtain ⟨b0, off, rfl⟩ := r.addr H (j := u) (by rw [cENs_len]; omega)
        have c1 := r.cell (cENs_get hx).1
        obtain ⟨g, rfl⟩ : ∃ g, A2 = some ⟨g, 0, none⟩ := Row.addr HS3 (by omega)
        have d1 : CellAt _ g _ _ := Row.cellAt (e := 3) (size := 1) (g := g) (n := m) (c := c2) (F := pts be (.cells #[.slice (some ⟨b0, off, none⟩) es.length c] 30 (0, 0)) * S) (j := i) (v := .int .i64 u) (ints_get (xs := nats fl) (by unfold nats; rw [List.getElem?_map, hu]; rfl))
        obtain ⟨q, hq⟩ : ∃ q, (x.k == b) = q := ⟨_, rfl⟩
        have HKU : Hd (kB (es.map ecOf) b u = q) := ⟨by rw [HKA.out u x hx, hq]⟩
        have HU := Hd.mk hu
        clear hu hx
        cases q
        · go_wp2
          go_roundw
          case rel => exact ⟨i + 1, by omega, by go_num, ⟨find_pass HT.out HU.out HKU.out⟩, inferInstance, inferInstance⟩
          case measure => (simp [intOf]; try omega)
        · obtain ⟨h1, h2⟩ := HHIT.out u (find_at HT.out HU.out HKU.out)
          subst h1
          subst h2
          go_wp2
          go_ret2
          exact ⟨rfl, Post.mk' (Ent.sep (S := _) inferInstance inferInstance) inferInstance⟩
      · have : i = m := by omega
        subst this
        obtain ⟨h1, h2⟩ := HMISS.out (by rw [← HT.out, HM.out, List.take_length])
        subst h1
        subst h2
        go_wp2
        go_ret2
        exact ⟨rfl, Post.mk' (Ent.sep (S := _) inferInstance inferInstance) inferInstance⟩
end Go.Proofs.Ytnmbmdigiaokjaa
