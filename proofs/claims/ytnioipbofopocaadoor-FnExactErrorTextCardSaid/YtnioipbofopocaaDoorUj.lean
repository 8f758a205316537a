/- ErrorText by the program: texts of all errors, each out of those of its parts. Conditions: the table of powers of ten reads as it is laid; lengths within bounds. -/
import Derived.Test.YtnioipbofopocaaDoorUe
import Derived.Test.YtnioipbofopocaaDoorUp
import Derived.Test.YtnioipbofopocaaDoorTv
namespace Go.Proofs.YtnioipbofopocaaDoor
open Go.RowKit SL
attribute [local go_sem] cell_blk frozen_blk lt_blk cell_at frozen_row lt_row
set_option linter.unusedVariables false
set_option linter.unusedSimpArgs false

/-- What the closure of a table of texts is asked. -/
def TellT (S : HP) (g : Nat) (lb : Array Value) (n : Nat) (of : Nat → List ByteArray → ByteArray) (k : Nat) : Prop :=
  ∀ (b : Nat) (W : World), SepI W (Row 9 1 (.slice (some ⟨b, 0, none⟩) n n) n (strs (tabS n of (n - (k + 1)))) * S) →
    Calls Tryd.prog g (#[.int .i64 k, .slice (some ⟨b, 0, none⟩) n n] ++ lb) W fun e w' => e = .returned (.string (of k (tabS n of (n - (k + 1))))) ∧
      Post W (Row 9 1 (.slice (some ⟨b, 0, none⟩) n n) n (strs (tabS n of (n - (k + 1)))) * S) w'
set_option maxRecDepth 100000 in
set_option maxHeartbeats 4000000 in
theorem eachStr (S : HP) (w : World) [H : SepI w S] (A : Option Addr) (c : Nat) (n : Nat) (hn : n ≤ 1048576) (g : Nat) (lb : Array Value) (of : Nat → List ByteArray → ByteArray) (eg : Enters g)
    (hp : ∀ S' : HP, ∀ k, k < n → TellT (S' * S) g lb n of k) : Calls Tryd.prog 84 #[.agg #[.slice A n c], .func (.func g) #[] lb] w
      fun e w' => ∃ b, e = .returned (.slice (some ⟨b, 0, none⟩) n n) ∧ Post w (Row 9 1 (.slice (some ⟨b, 0, none⟩) n n) n (strs (tabS n of n)) * S) w' := by
  have HPR := Hd.mk hp
  clear hp
  unfold Enters at eg
  go_enter Tryd.func84, Tryd.ntmps84
  obtain ⟨be, hbe⟩ : ∃ be, be = w.heap.size := ⟨_, rfl⟩
  go_wp2_with (refine ev_make rfl 25 _ _ rfl n rfl rfl 9 1 16 _ Tryd.underlying25 info_string rfl (by decide) (by decide) (by omega) ?_; rw [strs_zeros]; intro b w1 HS1 HE1)
  rw [← hbe] at HS1
  clear hbe
  go_loopw [6] (fun i wr => ∃ (k : Nat), k ≤ n ∧ i = .int .i64 ((k : Int) - 1) ∧ ExtI w wr ∧
    SepI wr (Row 9 1 (.slice (some ⟨b, 0, none⟩) n n) n (strs (tabS n of (n - k))) * (pts be (.cells #[.slice A n c] 42 (0, 0)) * S))) (fun i _ => (intOf i + 1).toNat)
  case atStart => exact ⟨n, Nat.le_refl _, by go_num, inferInstance, by rw [Nat.sub_self]; exact HS1⟩
  case round =>
    obtain ⟨k, hk, rfl, HX, HS⟩ := hrel
    by_cases hlt : 0 < k
    · obtain ⟨j, rfl⟩ : ∃ j, k = j + 1 := ⟨k - 1, by omega⟩
      have e1 : ((j + 1 : Nat) : Int) - 1 = j := by omega
      rw [e1]
      have hcall : ∀ W, SepI W _ → Calls Tryd.prog g (#[.int .i64 j, .slice (some ⟨b, 0, none⟩) n n] ++ lb) W _ := HPR.out (pts be (.cells #[.slice A n c] 42 (0, 0))) j (by omega) b
      have HC := Hd.mk hcall
      clear hcall
      obtain ⟨z, hz0⟩ := get_ex (xs := tabS n of (n - (j + 1))) (k := j) (by rw [tabS_len]; omega)
      have d1 : ∀ F, CellAt (Row 9 1 (.slice (some ⟨b, 0, none⟩) n n) n (strs (tabS n of (n - (j + 1)))) * F) b j (.string z) := fun F => Row.cellAt (strs_get hz0)
      clear hz0
      go_wp2_with ((with_reducible refine (HC.out _ inferInstance).mono ?_); rintro e w' ⟨rfl, HP'⟩; have HS2 := HP'.sep; have HE2 := HP'.ext; clear HP')
      go_roundw
      case rel => exact ⟨j, by omega, by go_num, inferInstance, SepI.cast inferInstance (by rw [strs_set, ← tabS_next of (by omega)])⟩
      case measure => (simp [intOf]; try omega)
    · have : k = 0 := by omega
      subst this
      go_wp2
      go_ret
      exact ⟨b, rfl, Post.mk' (Ent.sep (S := _) inferInstance inferInstance) inferInstance⟩
theorem map_dat (l : List ByteArray) : l.map (·.data.toList) = l.map dat := rfl
/-- strings.Join of strings that are read, by whatever text. -/
theorem impl_JoinS (S : HP) (w : World) [H : SepI w S] (A : Option Addr) (c : Nat) (l : List ByteArray) [r : Rd S A (strs l)] (n : Nat) (hn : l.length = n) (hn2 : n ≤ 1048576) (hc : n ≤ c) (sl : List UInt8) (hl : (Lib.join (l.map dat) sl).length ≤ 1048576) :
    Calls Tryd.prog 70 #[.slice A n c, .string (mkT sl)] w fun e w' => e = .returned (.string (mkT (Lib.join (l.map dat) sl))) ∧ Post w S w' := by
  subst hn
  by_cases h0 : l = []
  · subst h0
    refine (Tryd.strings_Join_none A c (mkT sl) w).mono ?_
    rintro e w' ⟨rfl, rfl⟩
    exact ⟨rfl, Post.mk' H inferInstance⟩
  · have hp : 0 < l.length := List.length_pos_iff.2 h0
    have hsl : (mkT sl).data.toList = sl := by simp [mkT]
    rcases r.out w H with h | ⟨bk, off, hA, hb, hcell⟩
    · have := congrArg List.length h
      rw [strs_len] at this
      simp at this
      exact absurd this h0
    · subst hA
      have h1 := Tryd.strings_Join bk off c l (mkT sl) w (fun j x hx => hcell j _ (strs_get hx)) hb (by omega) hc (by rw [hsl]; exact Nat.le_trans hl (by omega))
      rw [hsl] at h1
      refine h1.mono ?_
      rintro e w' ⟨rfl, hbl⟩
      exact ⟨rfl, Post.mk' (H.below hbl) ⟨hbl.os, hbl.tape, hbl.output, hbl.size⟩⟩
theorem nonempty_list {v : ByteArray} (h : v.size ≠ 0) : (v.toList == (ByteArray.mk #[]).toList) = false ∧ v.toList ≠ [] ∧ v.toList.isEmpty = false := by
  have h2 : v.toList ≠ [] := by
    rw [ByteArray.toList_eq]
    intro e
    have := congrArg List.length e
    rw [data_len] at this
    exact h this
  refine ⟨ne_list (fun e => h (by rw [e]; rfl)), h2, ?_⟩
  cases e : v.toList with
  | nil => exact absurd e h2
  | cons a b => rfl
theorem size_zeroE {s : ByteArray} (h : s.size = 0) : s = ByteArray.mk #[] := by
  obtain ⟨⟨l⟩⟩ := s
  match l, h with
  | [], _ => rfl
theorem enters_text : Enters 85 := fun _ _ => by go_simp
theorem txtE_at {es : List EC} {k : Nat} {x : EC} (h : es[k]? = some x) (known : List ByteArray) : txtE es k known = txtK x (partsT known x.2.2) := by
  unfold txtE
  rw [List.getD_eq_getElem?_getD, h]
  rfl
set_option maxRecDepth 100000 in
set_option maxHeartbeats 4000000 in
theorem impl_Text1 (S : HP) (w : World) [H : SepI w S] [t : TabI S] (be : Nat) (A : Option Addr) (c : Nat) (es : List EN) (b k : Nat) (known : List ByteArray) (hv : errsB (es.map ecOf) = true) [r : Rd S A (cENs es)] [B : Nodes S es]
    [hbk : HasBlk S be (.cells #[.slice A es.length c] 42 (0, 0))] [rk : Rd S (some ⟨b, 0, none⟩) (strs known)] (hk : k < es.length) (hl : known.length = es.length) (hb : ∀ (j : Nat) (v : ByteArray), known[j]? = some v → v.size ≤ 400) :
    Calls Tryd.prog 85 #[.int .i64 k, .slice (some ⟨b, 0, none⟩) es.length es.length, .pointer (some ⟨be, 0, none⟩)] w fun e w' => e = .returned (.string (txtE (es.map ecOf) k known)) ∧ Post w S w' := by
  obtain ⟨x, hx⟩ := get_ex (xs := es) (k := k) hk
  have hx2 : (es.map ecOf)[k]? = some (ecOf x) := by rw [List.getElem?_map, hx]; rfl
  obtain ⟨hcd, hm12, hkd⟩ := kind_cases hv hx2
  rw [txtE_at hx2]
  have HPT : Hd (∀ (j : Nat) (y : Int), x.l[j]? = some y → ∃ q v, y = ((q : Nat) : Int) ∧ q < es.length ∧ known[q]? = some v ∧ (partsT known x.l)[j]? = some v) := ⟨fun j y hy => by
    obtain ⟨q, rfl, h1, h2⟩ := part_at hv hx2 hy
    rw [List.length_map] at h2
    obtain ⟨v, hv2⟩ := get_ex (xs := known) (k := q) (by omega)
    exact ⟨q, v, rfl, h2, hv2, partsT_get hy hv2⟩⟩
  have HKB := Hd.mk hb
  obtain ⟨b0, off, rfl⟩ := r.addr H (j := k) (by rw [cENs_len]; omega)
  have c1 := r.cell (cENs_get hx).1
  have c2 := r.cell (cENs_get hx).2.1
  have c3 := r.cell (cENs_get hx).2.2
  have rx := B.rd x (List.mem_of_getElem? hx)
  have hs := small_of hv
  rw [List.length_map] at hs
  obtain ⟨n, hn⟩ : ∃ n, n = es.length := ⟨_, rfl⟩
  rw [← hn] at hs hk hbk HPT ⊢
  obtain ⟨kd, cd, p, pc, l⟩ := x
  simp only [ecOf] at hcd hm12 hkd HPT c1 c2 c3 rx ⊢
  obtain ⟨ps, hps⟩ : ∃ ps, partsT known l = ps := ⟨_, rfl⟩
  have hpl : ps.length = l.length := by rw [← hps]; exact partsT_len _ _
  rw [hps] at HPT ⊢
  obtain ⟨m, hm⟩ : ∃ m, m = l.length := ⟨_, rfl⟩
  have HML := Hd.mk hm
  have HPL : Hd (ps.length = m) := ⟨by omega⟩
  have HBO : Hd (bytesN ps ≤ (outT (kd, cd, l) ps).length) := ⟨outT_bytes hpl hkd⟩
  rw [← hm] at hm12 hkd c3
  obtain ⟨T, hT⟩ : ∃ T, txtK (kd, cd, l) ps = T := ⟨_, rfl⟩
  rw [hT]
  have HANY : Hd (∀ (j : Nat) (v : ByteArray), ps[j]? = some v → v.size = 0 → T = ByteArray.mk #[]) := ⟨fun j v h h0 => by rw [← hT]; exact txtK_any h h0⟩
  have HNO0 : Hd (400 < (outT (kd, cd, l) ps).length → T = ByteArray.mk #[]) := ⟨fun h => by rw [← hT]; exact txtK_long h⟩
  have HYES0 : Hd ((∀ (j : Nat) (v : ByteArray), ps[j]? = some v → v.size ≠ 0) → (outT (kd, cd, l) ps).length ≤ 400 → T = mkT (outT (kd, cd, l) ps)) := ⟨fun h h2 => by rw [← hT]; exact txtK_yes h h2⟩
  have HPS : Hd (∀ v ∈ ps, v.size ≤ 400) := ⟨fun v hv3 => by
    obtain ⟨j, hj⟩ := List.mem_iff_getElem?.1 hv3
    obtain ⟨y, hy⟩ := get_ex (xs := l) (k := j) (by rw [← hpl]; exact (List.getElem?_eq_some_iff.1 hj).1)
    obtain ⟨q, v2, _, _, h3, h4⟩ := HPT.out j y hy
    rw [hj] at h4
    injection h4 with h4
    rw [h4]
    exact hb q v2 h3⟩
  have HZB : Hd (∀ j, j ≤ m → bytesN (ps.take j) ≤ 400 * 12) := ⟨fun j hj => by
    have key : ∀ l : List ByteArray, (∀ v ∈ l, v.size ≤ 400) → bytesN l ≤ 400 * l.length := by
      intro l
      induction l with
      | nil => intro _; exact Nat.zero_le _
      | cons a l ih =>
        intro h
        have h1 := ih (fun v hv => h v (by simp [hv]))
        have h2 := h a (by simp)
        simp only [bytesN, List.length_cons]
        omega
    have h1 := key (ps.take j) (fun v hv => HPS.out v (List.mem_of_mem_take hv))
    have h2 : (ps.take j).length ≤ m := by rw [List.length_take]; omega
    omega⟩
  obtain ⟨nb, hnb⟩ : ∃ nb, numB cd = nb := ⟨_, rfl⟩
  have HNB := Hd.mk hnb
  have hnbs : nb.size ≤ 21 := by rw [← hnb]; exact numB_size (by omega) (by omega)
  have hcb : -9223372036854775808 ≤ cd ∧ cd ≤ 9223372036854775807 := by omega
  have HKD := Hd.mk hkd
  clear hx hx2 hcd hkd hv hb hl hn hps hpl hm hT hnb B
  go_enter Tryd.func85, Tryd.ntmps85
  go_wp2
  go_loopw [7, 8, 22] (fun v7 v8 v22 wr => ∃ (j : Nat) (vv : Value), j ≤ m ∧ v22 = .int .i64 j ∧ v7 = vv ∧ v8 = .int .i64 (bytesN (ps.take j) : Nat) ∧ ExtI w wr ∧ Hd (∀ (i : Nat) (v : ByteArray), i < j → ps[i]? = some v → v.size ≠ 0) ∧ SepI wr (Row 9 1 vv j (strs (ps.take j)) * (pts (w.heap.size + 1) (.cells #[.int .i64 kd, .int .i64 cd, .slice p m pc] 99 (0, 0)) * S))) (fun _ _ v _ => m - (intOf v).toNat)
  case atStart => exact ⟨0, .slice (some ⟨w.heap.size, 0, none⟩) 0 0, Nat.zero_le _, rfl, rfl, rfl, inferInstance, ⟨fun i v h => by omega⟩, by exact SepI.cast (Go.Proofs.YtnioipbofopocaaDoor.Row.nil0 (SepI.pick (S := _) (A := pts w.heap.size (.cells #[] 9 (0, 0))) inferInstance inferInstance)) rfl⟩
  case round =>
    obtain ⟨j, vv, hj, rfl, rfl, rfl, HX, HNE, HS⟩ := hrel
    obtain ⟨A7, c7, rfl, hc70, hc71⟩ := Row.form HS
    have hzb := HZB.out j hj
    by_cases hlt : j < m
    · obtain ⟨y, hy⟩ := get_ex (xs := l) (k := j) (by rw [← HML.out]; exact hlt)
      obtain ⟨bp, op, rfl⟩ := rx.addr H (j := j) (by rw [ints_len, ← HML.out]; omega)
      have c4 := rx.cell (ints_get hy)
      obtain ⟨q, v, rfl, hqn, hkq, hpv⟩ := HPT.out j _ hy
      have c5 := rk.cell (strs_get hkq)
      rw [Nat.zero_add] at c5
      have hvs := HKB.out q v hkq
      have HPV := Hd.mk hpv
      clear hy hkq hpv
      by_cases h0 : v.size = 0
      · have HTE := Hd.mk (HANY.out j v HPV.out h0)
        obtain rfl := size_zeroE h0
        clear h0 hvs
        go_wp2
        go_ret
        rw [HTE.out]
        exact ⟨rfl, Post.mk' (Ent.sep (S := _) inferInstance inferInstance) inferInstance⟩
      · obtain ⟨hne, hnn, hie⟩ := nonempty_list h0
        have HN0 := Hd.mk h0
        have HSX : Hd (strs (ps.take j) ++ #[Value.string v].toList = strs (ps.take (j + 1))) := ⟨by rw [take_succ_eq HPV.out, strs_append]; rfl⟩
        have HBN := bytesN_next HPV.out
        obtain ⟨z, hz⟩ : ∃ z, bytesN (ps.take j) = z := ⟨_, rfl⟩
        obtain ⟨z2, hz2⟩ : ∃ z2, bytesN (ps.take (j + 1)) = z2 := ⟨_, rfl⟩
        have HBY : Hd (z2 = bytesN (ps.take (j + 1))) := ⟨hz2.symm⟩
        rw [hz, hz2] at HBN
        rw [hz] at hzb
        rw [hz]
        have hw : IntKind.i64.wrap ((z : Int) + (v.size : Int)) = (z2 : Int) := by rw [IntWalk.i64_in _ (by omega)]; omega
        clear hz hz2 h0 HBN
        go_wp2
        refine wp_region_W 15 16 (by kernel_rfl) (by kernel_rfl) (fun w' => w'.cell? ⟨b, q, none⟩ = some (.string v)) (by exact cell_at _ _ _ _ _) (fun hHeld => ?_)
        refine tkp 0 hHeld ?_
        refine tkp 1 hHeld ?_
        refine tkp 2 hHeld ?_
        refine tkp 3 hHeld ?_
        refine tkl 4 hHeld ?_
        refine tkp 7 hHeld ?_
        refine tkp 8 hHeld ?_
        refine tkp 9 hHeld ?_
        refine tkp 10 hHeld ?_
        refine tkl 11 hHeld ?_
        refine tkp 12 hHeld ?_
        refine tkp 13 hHeld ?_
        refine wpAnyW_one false (i := 5) (by kernel_rfl) rfl (by kernel_rfl) (by rfl) (fun KK hKK => ?_)
        refine st_list rfl ?_
        go_wp2
        refine ⟨rfl, ?_⟩
        refine hKK.out _ _ (.inr (by exact cell_at _ _ _ _ _)) (fun hHeld => ?_)
        clear hKK KK
        try simp only [Act.put, List.setIfInBounds_toArray, List.set_cons_zero, List.set_cons_succ]
        refine wpAnyW_one false (i := 6) (by kernel_rfl) rfl (by kernel_rfl) (by rfl) (fun KK hKK => ?_)
        refine st_list rfl (ev_append (v := .slice A7 j c7) rfl _ _ 25 rfl ?_ 16 _ Tryd.underlying25 info_string rfl (by decide) (by decide) (wr.heap.size) 1 1 ?_ rfl (by simp [Value.oneCell']) (by omega) ?_)
        rfl
        rfl
        intro v1 w4 HS4 HE4
        replace HS4 := Row.asS HS4 rfl HSX.out
        refine ⟨rfl, ?_⟩
        refine hKK.out _ _ (.inr (by exact cell_at _ _ _ _ _)) (fun hHeld => ?_)
        clear hKK KK
        try simp only [Act.put, List.setIfInBounds_toArray, List.set_cons_zero, List.set_cons_succ]
        refine tkp 14 hHeld ?_
        refine wpAnyW_done (by kernel_rfl) ?_
        go_wp2
        go_roundw
        case rel => exact ⟨j + 1, v1, by omega, by go_num, rfl, by rw [HBY.out], inferInstance, ⟨fun i u h h2 => by
          by_cases hij : i = j
          · subst hij; rw [HPV.out] at h2; injection h2 with h2; rw [← h2]; exact HN0.out
          · exact HNE.out i u (by omega) h2⟩, Ent.sep (S := _) inferInstance HS4⟩
        case measure => (simp [intOf]; try omega)
    · have : j = m := by omega
      subst this
      have htk : ps.take j = ps := List.take_of_length_le (by rw [HPL.out]; exact Nat.le_refl _)
      rw [htk] at HS hzb
      rw [htk]
      clear htk
      have HNE2 : Hd (∀ (i : Nat) (v : ByteArray), ps[i]? = some v → v.size ≠ 0) := ⟨fun i v h => HNE.out i v (by rw [← HPL.out]; exact (List.getElem?_eq_some_iff.1 h).1) h⟩
      obtain ⟨z, hz⟩ : ∃ z, bytesN ps = z := ⟨_, rfl⟩
      have HZ := Hd.mk hz
      rw [hz] at hzb
      rw [hz]
      clear hz
      go_wp2_with fail
      refine (impl_Itoa _ _ cd hcb.1 hcb.2).mono ?_
      rw [HNB.out]
      rintro e w7 ⟨rfl, HP⟩
      have HS7 := HP.sep
      have HE7 := HP.ext
      clear HP
      by_cases hz4 : 400 < z
      · have hz4i : (400 : Int) < (z : Int) := by omega
        have HTE := Hd.mk (HNO0.out (by have := HBO.out; rw [HZ.out] at this; omega))
        clear hz4
        go_wp2
        go_ret
        rw [HTE.out]
        exact ⟨rfl, Post.mk' (Ent.sep (S := _) inferInstance inferInstance) inferInstance⟩
      · have hz4i : ¬ (400 : Int) < (z : Int) := by omega
        obtain ⟨Z, hZ⟩ : ∃ Z, mkT (outT (kd, cd, l) ps) = Z := ⟨_, rfl⟩
        have HZZ := Hd.mk hZ
        have HZS : Hd (Z.size = (outT (kd, cd, l) ps).length) := ⟨by rw [← hZ, mkT_size]⟩
        have HYES : Hd (Z.size ≤ 400 → T = Z) := ⟨fun h => by rw [← hZ]; exact HYES0.out HNE2.out (by rw [← HZS.out]; exact h)⟩
        have HNO : Hd (400 < Z.size → T = ByteArray.mk #[]) := ⟨fun h => HNO0.out (by rw [← HZS.out]; exact h)⟩
        clear hZ hz4
        rcases HKD.out with ⟨rfl, h0⟩ | ⟨rfl, h0⟩ | ⟨rfl, h0⟩ | ⟨rfl, h0⟩
        · have hcat : ByteArray.mk #[101] ++ nb = Z := by rw [← HZZ.out, ← HNB.out]; exact mkT_append [101] _
          by_cases hz4 : Z.size ≤ 400
          · have HTZ := Hd.mk (HYES.out hz4)
            have hz4i : ¬ (400 : Int) < (Z.size : Int) := by omega
            clear hz4
            go_wp2
            go_ret
            rw [HTZ.out]
            exact ⟨rfl, Post.mk' (Ent.sep (S := _) inferInstance inferInstance) inferInstance⟩
          · have HTZ := Hd.mk (HNO.out (by omega))
            have hz4i : (400 : Int) < (Z.size : Int) := by omega
            clear hz4
            go_wp2
            go_ret
            rw [HTZ.out]
            exact ⟨rfl, Post.mk' (Ent.sep (S := _) inferInstance inferInstance) inferInstance⟩
        · have hcat : ByteArray.mk #[108, 105, 107, 101] ++ nb = Z := by rw [← HZZ.out, ← HNB.out]; exact mkT_append [108, 105, 107, 101] _
          by_cases hz4 : Z.size ≤ 400
          · have HTZ := Hd.mk (HYES.out hz4)
            have hz4i : ¬ (400 : Int) < (Z.size : Int) := by omega
            clear hz4
            go_wp2
            go_ret
            rw [HTZ.out]
            exact ⟨rfl, Post.mk' (Ent.sep (S := _) inferInstance inferInstance) inferInstance⟩
          · have HTZ := Hd.mk (HNO.out (by omega))
            have hz4i : (400 : Int) < (Z.size : Int) := by omega
            clear hz4
            go_wp2
            go_ret
            rw [HTZ.out]
            exact ⟨rfl, Post.mk' (Ent.sep (S := _) inferInstance inferInstance) inferInstance⟩
        · subst h0
          obtain ⟨p0, hp0⟩ := get_ex (xs := ps) (k := 0) (by rw [HPL.out]; omega)
          obtain ⟨g7, rfl⟩ := Row.addr HS (by omega)
          have e7 : ∀ F, CellAt (Row 9 1 (.slice (some ⟨g7, 0, none⟩) 1 c7) 1 (strs ps) * F) g7 0 (.string p0) := fun F => Row.cellAt (strs_get hp0)
          have hp0s := HPS.out p0 (List.mem_of_getElem? hp0)
          have hhd : ps.headD ByteArray.empty = p0 := by
            cases ps with
            | nil => simp at hp0
            | cons a ps => simp at hp0; rw [hp0]; rfl
          have hcat : ByteArray.mk #[119] ++ nb ++ ByteArray.mk #[58, 32] ++ p0 = Z := by
            rw [← HZZ.out, ← HNB.out]
            show mkT [119] ++ mkT _ ++ mkT [58, 32] ++ p0 = mkT (119 :: Lib.itoa cd ++ [58, 32] ++ dat (ps.headD ByteArray.empty))
            rw [hhd, ← mkT_append, show mkT (dat p0) = p0 from mkT_data p0, mkT_append, mkT_append]
            rfl
          clear hhd hp0
          by_cases hz4 : Z.size ≤ 400
          · have HTZ := Hd.mk (HYES.out hz4)
            have hz4i : ¬ (400 : Int) < (Z.size : Int) := by omega
            clear hz4
            go_wp2
            go_ret
            rw [HTZ.out]
            exact ⟨rfl, Post.mk' (Ent.sep (S := _) inferInstance inferInstance) inferInstance⟩
          · have HTZ := Hd.mk (HNO.out (by omega))
            have hz4i : (400 : Int) < (Z.size : Int) := by omega
            clear hz4
            go_wp2
            go_ret
            rw [HTZ.out]
            exact ⟨rfl, Post.mk' (Ent.sep (S := _) inferInstance inferInstance) inferInstance⟩
        · have HJL : Hd ((Lib.join (ps.map dat) [59, 32]).length ≤ 1048576) := ⟨by
            have h1 := join_len 400 [59, 32] (ps.map dat) (fun u hu => by
              obtain ⟨v, hv, rfl⟩ := List.mem_map.1 hu
              rw [dat_len]; exact HPS.out v hv)
            rw [List.length_map, HPL.out] at h1
            have : [59, (32 : UInt8)].length = 2 := rfl
            rw [this] at h1
            omega⟩
          obtain ⟨J, hJ⟩ : ∃ J, mkT (Lib.join (ps.map dat) [59, 32]) = J := ⟨_, rfl⟩
          have HJ := Hd.mk hJ
          have hJs : J.size ≤ 1048576 := by rw [← hJ, mkT_size]; exact HJL.out
          have hcat : ByteArray.mk #[91] ++ J ++ ByteArray.mk #[93] = Z := by
            rw [← HZZ.out, ← hJ]
            show mkT [91] ++ mkT _ ++ mkT [93] = _
            rw [mkT_append, mkT_append]; rfl
          clear hJ
          by_cases hz4 : Z.size ≤ 400
          · have HTZ := Hd.mk (HYES.out hz4)
            have hz4i : ¬ (400 : Int) < (Z.size : Int) := by omega
            clear hz4
            go_wp2_with fail
            refine (impl_JoinS _ _ A7 c7 ps j HPL.out (by omega) hc70 [59, 32] HJL.out).mono ?_
            rw [HJ.out]
            rintro e w8 ⟨rfl, HP⟩
            have HS8 := HP.sep
            have HE8 := HP.ext
            clear HP
            go_wp2
            go_ret
            rw [HTZ.out]
            exact ⟨rfl, Post.mk' (Ent.sep (S := _) inferInstance inferInstance) inferInstance⟩
          · have HTZ := Hd.mk (HNO.out (by omega))
            have hz4i : (400 : Int) < (Z.size : Int) := by omega
            clear hz4
            go_wp2_with fail
            refine (impl_JoinS _ _ A7 c7 ps j HPL.out (by omega) hc70 [59, 32] HJL.out).mono ?_
            rw [HJ.out]
            rintro e w8 ⟨rfl, HP⟩
            have HS8 := HP.sep
            have HE8 := HP.ext
            clear HP
            go_wp2
            go_ret
            rw [HTZ.out]
            exact ⟨rfl, Post.mk' (Ent.sep (S := _) inferInstance inferInstance) inferInstance⟩
end Go.Proofs.YtnioipbofopocaaDoor
