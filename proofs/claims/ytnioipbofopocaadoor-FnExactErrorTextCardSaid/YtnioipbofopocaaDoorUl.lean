/- ErrorText by the reference. Conditions: lengths within bounds. -/
import Derived.Test.YtnioipbofopocaaDoorUk
namespace Go.Proofs.YtnioipbofopocaaDoor
open Go.RowKit SL
attribute [local go_sem] cell_blk frozen_blk lt_blk cell_at frozen_row lt_row
set_option linter.unusedVariables false
set_option linter.unusedSimpArgs false

/-- What is said of an error whose text is T (empty: too long). -/
def SayP (S : HP) (T : ByteArray) (b : Nat) (w : World) (e : Ending) (w' : World) : Prop := ∃ (s : ByteArray) (ok : Bool), e = .returned (.tuple #[.string s, .bool ok]) ∧ Hd (if ok = true then s = T ∧ T.size ≠ 0 else T = ByteArray.mk #[]) ∧ s.size ≤ b ∧ Post w S w'
theorem SayP.yes {S : HP} {T s : ByteArray} {b : Nat} {w w' : World} (h : T = s) (h0 : T.size ≠ 0) (hb : s.size ≤ b) (po : Post w S w') : SayP S T b w (.returned (.tuple #[.string s, .bool true])) w' := ⟨s, true, rfl, ⟨⟨h.symm, h0⟩⟩, hb, po⟩
theorem SayP.no {S : HP} {T s : ByteArray} {b : Nat} {w w' : World} (h : T = ByteArray.mk #[]) (hb : s.size ≤ b) (po : Post w S w') : SayP S T b w (.returned (.tuple #[.string s, .bool false])) w' := ⟨s, false, rfl, ⟨h⟩, hb, po⟩
def preS (ps : List ByteArray) (j : Nat) : List UInt8 := 91 :: Lib.join ((ps.take j).map dat) [59, 32]
theorem preS_first {ps : List ByteArray} {v : ByteArray} (h : ps[0]? = some v) : preS ps 1 = [91] ++ dat v := by
  unfold preS
  rw [show ps.take 1 = ps.take 0 ++ [v] from take_succ_eq h, List.take_zero, List.nil_append, List.map_cons, List.map_nil, Lib.join_one]
  rfl
theorem preS_next {ps : List ByteArray} {j : Nat} {v : ByteArray} (hj : 0 < j) (h : ps[j]? = some v) : preS ps (j + 1) = preS ps j ++ [59, 32] ++ dat v := by
  unfold preS
  have hl := (List.getElem?_eq_some_iff.1 h).1
  rw [take_succ_eq h, List.map_append, List.map_cons, List.map_nil, join_end]
  · simp
  · intro e
    have := congrArg List.length e
    rw [List.length_map, List.length_take] at this
    simp at this
    rcases this with h1 | h1
    · omega
    · rw [h1] at hl; simp at hl
theorem preS_le (ps : List ByteArray) (j : Nat) : (preS ps j).length ≤ (Lib.join (ps.map dat) [59, 32]).length + 1 := by
  unfold preS
  rw [List.length_cons, List.map_take]
  have := join_take_len [59, 32] (ps.map dat) j
  omega
/-- What is said of each error whose walk is at most d deep. -/
def SayAll (d : Nat) : Prop := ∀ (S : HP) (w : World) (_ : SepI w S) (A : Option Addr) (c : Nat) (es : List EN) (_ : Rd S A (cENs es)) (_ : Nodes S es) (hv : errsB (es.map ecOf) = true) (k : Nat) (hk : k < es.length) (hd : es.length - k ≤ d) (hd2 : d ≤ 20) (T : ByteArray) (hT : (texts (es.map ecOf))[k]? = some T),
    Calls Tryd.prog 54 #[.agg #[.slice A es.length c], .int .i64 (k : Int)] w (SayP S T (400 + 30 * d) w)
set_option maxRecDepth 100000 in
set_option maxHeartbeats 4000000 in
theorem say_step (d : Nat) (ih : SayAll d) : SayAll (d + 1) := by
    intro S w H A c es r B hv k hk hd hd2 T hT
    obtain ⟨x, hx⟩ := get_ex (xs := es) (k := k) hk
    have hx2 : (es.map ecOf)[k]? = some (ecOf x) := by rw [List.getElem?_map, hx]; rfl
    obtain ⟨hcd, hm12, hkd⟩ := kind_cases hv hx2
    have HIH : Hd (∀ (S' : HP) (w' : World), SepI w' S' → Rd S' A (cENs es) → Nodes S' es → ∀ (q : Nat) (v : ByteArray), k < q → q < es.length → (texts (es.map ecOf))[q]? = some v →
        Calls Tryd.prog 54 #[.agg #[.slice A es.length c], .int .i64 (q : Int)] w' (SayP S' v (400 + 30 * d) w')) := ⟨fun S' w' h1 h2 h3 q v hq1 hq2 hq3 => ih S' w' h1 A c es h2 h3 hv q hq2 (by omega) (by omega) v hq3⟩
    have HPT : Hd (∀ (j : Nat) (y : Int), x.l[j]? = some y → ∃ q v, y = ((q : Nat) : Int) ∧ k < q ∧ q < es.length ∧ (texts (es.map ecOf))[q]? = some v ∧ (partsT (texts (es.map ecOf)) x.l)[j]? = some v) := ⟨fun j y hy => by
      obtain ⟨q, rfl, h1, h2⟩ := part_at hv hx2 hy
      obtain ⟨v, hv2⟩ := texts_get h2
      rw [List.length_map] at h2
      exact ⟨q, v, rfl, h1, h2, hv2, partsT_get hy hv2⟩⟩
    have htx := texts_at hv hx2
    rw [hT] at htx
    injection htx with htx
    obtain ⟨b0, off, rfl⟩ := r.addr H (j := k) (by rw [cENs_len]; omega)
    have c1 := r.cell (cENs_get hx).1
    have c2 := r.cell (cENs_get hx).2.1
    have c3 := r.cell (cENs_get hx).2.2
    have rx := B.rd x (List.mem_of_getElem? hx)
    have hs := small_of hv
    rw [List.length_map] at hs
    obtain ⟨n, hn⟩ : ∃ n, n = es.length := ⟨_, rfl⟩
    rw [← hn] at hs hk HPT HIH ⊢
    obtain ⟨kd, cd, p, pc, l⟩ := x
    simp only [ecOf] at hcd hm12 hkd HPT c1 c2 c3 rx htx
    obtain ⟨ps, hps⟩ : ∃ ps, partsT (texts (es.map ecOf)) l = ps := ⟨_, rfl⟩
    have hpl0 : ps.length = l.length := by rw [← hps]; exact partsT_len _ _
    rw [hps] at HPT htx
    obtain ⟨TX, hTX⟩ : ∃ TX, texts (es.map ecOf) = TX := ⟨_, rfl⟩
    rw [hTX] at HPT HIH
    obtain ⟨m, hm⟩ : ∃ m, m = l.length := ⟨_, rfl⟩
    have HML := Hd.mk hm
    have HPL : Hd (ps.length = m) := ⟨by omega⟩
    rw [← hm] at hm12 hkd c3
    obtain ⟨Z, hZ⟩ : ∃ Z, mkT (outT (kd, cd, l) ps) = Z := ⟨_, rfl⟩
    have HZZ := Hd.mk hZ
    have HZS : Hd (Z.size = (outT (kd, cd, l) ps).length) := ⟨by rw [← hZ, mkT_size]⟩
    have HZP : Hd (Z.size ≠ 0) := ⟨by rw [HZS.out]; have := outT_pos (kd, cd, l) ps; omega⟩
    have HANY : Hd (∀ (j : Nat) (v : ByteArray), ps[j]? = some v → v.size = 0 → T = ByteArray.mk #[]) := ⟨fun j v h h0 => by rw [htx]; exact txtK_any h h0⟩
    have HNO : Hd (400 < Z.size → T = ByteArray.mk #[]) := ⟨fun h => by rw [htx]; exact txtK_long (by rw [← HZS.out]; exact h)⟩
    have HYES : Hd ((∀ (j : Nat) (v : ByteArray), ps[j]? = some v → v.size ≠ 0) → Z.size ≤ 400 → T = Z) := ⟨fun h h2 => by rw [htx, ← hZ]; exact txtK_yes h (by rw [← HZS.out]; exact h2)⟩
    obtain ⟨nb, hnb⟩ : ∃ nb, numB cd = nb := ⟨_, rfl⟩
    have HNB := Hd.mk hnb
    have hnbs : nb.size ≤ 21 := by rw [← hnb]; exact numB_size (by omega) (by omega)
    have hcb : -9223372036854775807 < cd ∧ cd < 9223372036854775807 := by omega
    have HKD := Hd.mk hkd
    clear ih hx hx2 hcd hkd hv hn hps hpl0 hm hT hnb htx hTX hZ hd
    rcases HKD.out with ⟨rfl, h0⟩ | ⟨rfl, h0⟩ | ⟨rfl, h0⟩ | ⟨rfl, h0⟩
    · subst h0
      have hcat : ByteArray.mk #[101] ++ nb = Z := by rw [← HZZ.out, ← HNB.out]; exact mkT_append [101] _
      have hzs : Z.size ≤ 25 := by
        rw [← hcat, ByteArray.size_append]
        have : (ByteArray.mk #[101]).size = 1 := rfl
        omega
      have HTZ := Hd.mk (HYES.out (fun j v hv => by have h1 := (List.getElem?_eq_some_iff.1 hv).1; have h2 := HPL.out; omega) (by omega))
      go_enter Tryd.func54, Tryd.ntmps54
      go_wp2_with fail
      refine (spec_l1NumA _ _ cd hcb.1 hcb.2).mono ?_
      rw [HNB.out]
      rintro e w7 ⟨rfl, HP⟩
      have HS7 := HP.sep
      have HE7 := HP.ext
      clear HP
      go_wp2
      refine bodyPost_ret (v := .tuple #[.string Z, .bool true]) (by simp [results, Tryd.results54, go_sem]) rfl ?_
      exact SayP.yes HTZ.out (by rw [HTZ.out]; exact HZP.out) (by omega) (Post.mk' (Ent.sep (S := _) inferInstance inferInstance) inferInstance)
    · subst h0
      have hcat : ByteArray.mk #[108, 105, 107, 101] ++ nb = Z := by rw [← HZZ.out, ← HNB.out]; exact mkT_append [108, 105, 107, 101] _
      have hzs : Z.size ≤ 25 := by
        rw [← hcat, ByteArray.size_append]
        have : (ByteArray.mk #[108, 105, 107, 101]).size = 4 := rfl
        omega
      have HTZ := Hd.mk (HYES.out (fun j v hv => by have h1 := (List.getElem?_eq_some_iff.1 hv).1; have h2 := HPL.out; omega) (by omega))
      go_enter Tryd.func54, Tryd.ntmps54
      go_wp2_with fail
      refine (spec_l1NumA _ _ cd hcb.1 hcb.2).mono ?_
      rw [HNB.out]
      rintro e w7 ⟨rfl, HP⟩
      have HS7 := HP.sep
      have HE7 := HP.ext
      clear HP
      go_wp2
      refine bodyPost_ret (v := .tuple #[.string Z, .bool true]) (by simp [results, Tryd.results54, go_sem]) rfl ?_
      exact SayP.yes HTZ.out (by rw [HTZ.out]; exact HZP.out) (by omega) (Post.mk' (Ent.sep (S := _) inferInstance inferInstance) inferInstance)
    · subst h0
      obtain ⟨y, hy⟩ := get_ex (xs := l) (k := 0) (by rw [← HML.out]; omega)
      obtain ⟨q, v, rfl, hq1, hq2, htq, hpv⟩ := HPT.out 0 y hy
      obtain ⟨bp, op, rfl⟩ := rx.addr H (j := 0) (by rw [ints_len, ← HML.out]; omega)
      have c4 := rx.cell (ints_get hy)
      rw [Nat.add_zero] at c4
      have HTQ := Hd.mk htq
      have HPV := Hd.mk hpv
      have HCAT2 : Hd (∀ u : ByteArray, ps[0]? = some u → ByteArray.mk #[119] ++ nb ++ ByteArray.mk #[58, 32] ++ u = Z) := ⟨fun u hu => by
        have hhd : ps.headD ByteArray.empty = u := by
          cases ps with
          | nil => simp at hu
          | cons a ps => simp at hu; rw [hu]; rfl
        rw [← HZZ.out, ← HNB.out]
        show mkT [119] ++ mkT _ ++ mkT [58, 32] ++ u = mkT (119 :: Lib.itoa cd ++ [58, 32] ++ dat (ps.headD ByteArray.empty))
        rw [hhd, ← mkT_append, show mkT (dat u) = u from mkT_data u, mkT_append, mkT_append]
        rfl⟩
      clear hy htq hpv
      go_enter Tryd.func54, Tryd.ntmps54
      go_wp2
      refine wp_region_W 10 11 (by kernel_rfl) (by kernel_rfl) (fun w' => w'.cell? ⟨w.heap.size, 0, none⟩ = some (.slice (some ⟨b0, off, none⟩) n c) ∧ w'.cell? ⟨(w.heap.size + 1), 2, none⟩ = some (.slice (some ⟨bp, op, none⟩) 1 pc) ∧ w'.cell? ⟨bp, op, none⟩ = some (.int .i64 (q : Int))) ⟨cb, cb, cell_at _ _ _ _ _⟩ (fun hHeld => ?_)
      refine tkl 0 hHeld ?_
      refine tkp 1 hHeld ?_
      refine tkl 2 hHeld ?_
      refine tkp 3 hHeld ?_
      refine tkl 4 hHeld ?_
      refine wpAnyW_one false (i := 5) (by kernel_rfl) rfl (by kernel_rfl) (by rfl) (fun KK hKK => ?_)
      refine st_list rfl ?_
      go_wp2_with fail
      refine (HIH.out _ _ inferInstance inferInstance inferInstance q v hq1 hq2 HTQ.out).mono ?_
      rintro e5 w5 ⟨si, oki, rfl, HR5, hs5, HP⟩
      have HS5 := HP.sep
      have HE5 := HP.ext
      clear HP
      go_wp2
      refine ⟨rfl, ?_⟩
      refine hKK.out _ _ (.inr ⟨cb, cb, cell_at _ _ _ _ _⟩) (fun hHeld => ?_)
      clear hKK KK
      try simp only [Act.put, List.setIfInBounds_toArray, List.set_cons_zero, List.set_cons_succ]
      refine tkp 6 hHeld ?_
      refine tkp 7 hHeld ?_
      refine tkp 8 hHeld ?_
      refine tkp 9 hHeld ?_
      refine wpAnyW_done (by kernel_rfl) ?_
      go_wp2_with fail
      refine (spec_l1NumA _ _ cd hcb.1 hcb.2).mono ?_
      rw [HNB.out]
      rintro e w7 ⟨rfl, HP⟩
      have HS7 := HP.sep
      have HE7 := HP.ext
      clear HP
      cases oki
      · have hv0 : v = ByteArray.mk #[] := HR5.out
        have HTE := Hd.mk (HANY.out 0 v HPV.out (by rw [hv0]; rfl))
        have hcs : (ByteArray.mk #[119] ++ nb ++ ByteArray.mk #[58, 32] ++ si).size = nb.size + 3 + si.size := by
          rw [ByteArray.size_append, ByteArray.size_append, ByteArray.size_append]
          have e1 : (ByteArray.mk #[119]).size = 1 := rfl
          have e2 : (ByteArray.mk #[58, 32]).size = 2 := rfl
          omega
        obtain ⟨s1, hs1⟩ : ∃ s1, ByteArray.mk #[119] ++ nb ++ ByteArray.mk #[58, 32] ++ si = s1 := ⟨_, rfl⟩
        rw [hs1] at hcs
        have hs1b : s1.size ≤ 400 + 30 * (d + 1) := by omega
        clear hcs hv0
        go_wp2
        refine bodyPost_ret (v := .tuple #[.string s1, .bool false]) (by simp [results, Tryd.results54, go_sem]) rfl ?_
        exact SayP.no HTE.out hs1b (Post.mk' (Ent.sep (S := _) inferInstance inferInstance) inferInstance)
      · obtain ⟨hsv, hv0⟩ : si = v ∧ v.size ≠ 0 := HR5.out
        subst hsv
        have hcat : ByteArray.mk #[119] ++ nb ++ ByteArray.mk #[58, 32] ++ si = Z := HCAT2.out si HPV.out
        have hne : ∀ (j : Nat) (u : ByteArray), ps[j]? = some u → u.size ≠ 0 := fun j u hu => by
          have hj := (List.getElem?_eq_some_iff.1 hu).1
          obtain rfl : j = 0 := by have := HPL.out; omega
          have h2 := HPV.out
          rw [hu] at h2
          injection h2 with h2
          rw [h2]; exact hv0
        have HNE := Hd.mk hne
        have hzs : Z.size = nb.size + 3 + si.size := by
          rw [← hcat, ByteArray.size_append, ByteArray.size_append, ByteArray.size_append]
          have e1 : (ByteArray.mk #[119]).size = 1 := rfl
          have e2 : (ByteArray.mk #[58, 32]).size = 2 := rfl
          omega
        have hzb : Z.size ≤ 400 + 30 * (d + 1) := by omega
        clear hne hv0 hzs
        by_cases hz4 : Z.size ≤ 400
        · have HTZ := Hd.mk (HYES.out HNE.out hz4)
          have hz4i : (Z.size : Int) ≤ 400 := by omega
          go_wp2
          refine bodyPost_ret (v := .tuple #[.string Z, .bool true]) (by simp [results, Tryd.results54, go_sem]) rfl ?_
          exact SayP.yes HTZ.out (by rw [HTZ.out]; exact HZP.out) hzb (Post.mk' (Ent.sep (S := _) inferInstance inferInstance) inferInstance)
        · have HTZ := Hd.mk (HNO.out (by omega))
          have hz4i : ¬ (Z.size : Int) ≤ 400 := by omega
          go_wp2
          refine bodyPost_ret (v := .tuple #[.string Z, .bool false]) (by simp [results, Tryd.results54, go_sem] <;> omega) rfl ?_
          exact SayP.no HTZ.out hzb (Post.mk' (Ent.sep (S := _) inferInstance inferInstance) inferInstance)
    · have HOL : Hd ((outT (3, cd, l) ps).length = (Lib.join (ps.map dat) [59, 32]).length + 2) := ⟨by
        show (91 :: Lib.join (ps.map dat) [59, 32] ++ [93]).length = _
        rw [List.length_append, List.length_cons, List.length_singleton]⟩
      have HFIN : Hd (mkT (preS ps m) ++ ByteArray.mk #[93] = Z) := ⟨by
        rw [← HZZ.out]
        show mkT (preS ps m) ++ mkT [93] = mkT (91 :: Lib.join (ps.map dat) [59, 32] ++ [93])
        unfold preS
        rw [mkT_append, List.take_of_length_le (by rw [HPL.out]; exact Nat.le_refl _)]⟩
      go_enter Tryd.func54, Tryd.ntmps54
      go_wp2
      go_loopw [10, 11] (fun v10 v11 wr => ∃ j : Nat, j ≤ m ∧ v11 = .int .i64 j ∧ v10 = .string (mkT (preS ps j)) ∧ (preS ps j).length ≤ 400 ∧ Hd (∀ (i : Nat) (v : ByteArray), i < j → ps[i]? = some v → v.size ≠ 0) ∧ ExtI w wr ∧ SepI wr (pts (w.heap.size + 1) (.cells #[.int .i64 3, .int .i64 cd, .slice p m pc] 99 (0, 0)) * (pts w.heap.size (.cells #[.slice (some ⟨b0, off, none⟩) n c] 42 (0, 0)) * S))) (fun _ v _ => m - (intOf v).toNat)
      case atStart => exact ⟨0, Nat.zero_le _, rfl, rfl, (by decide : [(91 : UInt8)].length ≤ 400), ⟨fun i v h => by omega⟩, inferInstance, inferInstance⟩
      case round =>
        obtain ⟨j, hj, rfl, rfl, hpl, HNE, HX, HS⟩ := hrel
        by_cases hlt : j < m
        · rcases Nat.eq_zero_or_pos j with hj0 | hj0
          · obtain ⟨y, hy⟩ := get_ex (xs := l) (k := j) (by rw [← HML.out]; exact hlt)
            obtain ⟨q, v, rfl, hq1, hq2, htq, hpv⟩ := HPT.out j y hy
            obtain ⟨bp, op, rfl⟩ := rx.addr H (j := j) (by rw [ints_len, ← HML.out]; omega)
            have c4 := rx.cell (ints_get hy)
            have HTQ := Hd.mk htq
            have HPV := Hd.mk hpv
            have HPN : Hd (preS ps (j + 1) = [91] ++ dat v) := ⟨by rw [hj0] at hpv ⊢; exact preS_first hpv⟩
            obtain ⟨U, hU⟩ : ∃ U, mkT (preS ps j) = U := ⟨_, rfl⟩
            have hus : U.size ≤ 400 := by rw [← hU, mkT_size]; exact hpl
            have HUR : Hd (mkT [91] = U) := ⟨by rw [← hU, hj0]; rfl⟩
            rw [hU]
            have hj0i : ¬ (0 : Int) < (j : Int) := by omega
            clear hU hy htq hpv hj0
            go_wp2
            refine wp_region_W 11 12 (by kernel_rfl) (by kernel_rfl) (fun w' => w'.cell? ⟨w.heap.size, 0, none⟩ = some (.slice (some ⟨b0, off, none⟩) n c) ∧ w'.cell? ⟨(w.heap.size + 1), 2, none⟩ = some (.slice (some ⟨bp, op, none⟩) m pc) ∧ w'.cell? ⟨bp, op + j, none⟩ = some (.int .i64 (q : Int))) ⟨cb, cb, cell_at _ _ _ _ _⟩ (fun hHeld => ?_)
            refine tkl 0 hHeld ?_
            refine tkp 1 hHeld ?_
            refine tkl 2 hHeld ?_
            refine tkp 3 hHeld ?_
            refine tkp 4 hHeld ?_
            refine tkl 5 hHeld ?_
            refine wpAnyW_one false (i := 6) (by kernel_rfl) rfl (by kernel_rfl) (by rfl) (fun KK hKK => ?_)
            refine st_list rfl ?_
            go_wp2_with fail
            refine (HIH.out _ _ inferInstance inferInstance inferInstance q v hq1 hq2 HTQ.out).mono ?_
            rintro e5 w5 ⟨si, oki, rfl, HR5, hs5, HP⟩
            have HS5 := HP.sep
            have HE5 := HP.ext
            clear HP
            go_wp2
            refine ⟨rfl, ?_⟩
            refine hKK.out _ _ (.inr ⟨cb, cb, cell_at _ _ _ _ _⟩) (fun hHeld => ?_)
            clear hKK KK
            try simp only [Act.put, List.setIfInBounds_toArray, List.set_cons_zero, List.set_cons_succ]
            refine tkp 7 hHeld ?_
            refine tkp 8 hHeld ?_
            refine tkp 9 hHeld ?_
            refine tkp 10 hHeld ?_
            refine wpAnyW_done (by kernel_rfl) ?_
            cases oki
            · have hv0 : v = ByteArray.mk #[] := HR5.out
              have HTE := Hd.mk (HANY.out j v HPV.out (by rw [hv0]; rfl))
              clear hv0
              go_wp2
              refine bodyPost_ret (v := .tuple #[.string ⟨#[]⟩, .bool false]) (by simp [results, Tryd.results54, go_sem]) rfl ?_
              exact SayP.no HTE.out (Nat.zero_le _) (Post.mk' (Ent.sep (S := _) inferInstance inferInstance) inferInstance)
            · obtain ⟨hsv, hv0⟩ : si = v ∧ v.size ≠ 0 := HR5.out
              subst hsv
              have HN0 := Hd.mk hv0
              obtain ⟨Y, hY⟩ : ∃ Y, mkT (preS ps (j + 1)) = Y := ⟨_, rfl⟩
              have hcat : U ++ si = Y := by rw [← hY, HPN.out, ← mkT_append, HUR.out, show mkT (dat si) = si from mkT_data si]
              have HYY := Hd.mk hY
              have hys : Y.size = (preS ps (j + 1)).length := by rw [← hY, mkT_size]
              by_cases hy4 : Y.size ≤ 400
              · have hy4i : ¬ (400 : Int) < (Y.size : Int) := by omega
                have hpl2 : (preS ps (j + 1)).length ≤ 400 := by omega
                clear hv0 hY hys hy4
                go_wp2
                go_roundw
                case rel => exact ⟨j + 1, by omega, by go_num, by rw [HYY.out], hpl2, ⟨fun i u h h2 => by
                  by_cases hij : i = j
                  · subst hij; have h3 := HPV.out; rw [h2] at h3; injection h3 with h3; rw [h3]; exact HN0.out
                  · exact HNE.out i u (by omega) h2⟩, inferInstance, Ent.sep (S := _) inferInstance inferInstance⟩
                case measure => (simp [intOf]; try omega)
              · have hy4i : (400 : Int) < (Y.size : Int) := by omega
                have HTE := Hd.mk (HNO.out (by have := preS_le ps (j + 1); have := HZS.out; have := HOL.out; omega))
                clear hv0 hY hys hy4
                go_wp2
                refine bodyPost_ret (v := .tuple #[.string ⟨#[]⟩, .bool false]) (by simp [results, Tryd.results54, go_sem]) rfl ?_
                exact SayP.no HTE.out (Nat.zero_le _) (Post.mk' (Ent.sep (S := _) inferInstance inferInstance) inferInstance)
          · obtain ⟨y, hy⟩ := get_ex (xs := l) (k := j) (by rw [← HML.out]; exact hlt)
            obtain ⟨q, v, rfl, hq1, hq2, htq, hpv⟩ := HPT.out j y hy
            obtain ⟨bp, op, rfl⟩ := rx.addr H (j := j) (by rw [ints_len, ← HML.out]; omega)
            have c4 := rx.cell (ints_get hy)
            have HTQ := Hd.mk htq
            have HPV := Hd.mk hpv
            have HPN : Hd (preS ps (j + 1) = (preS ps j ++ [59, 32]) ++ dat v) := ⟨by exact preS_next hj0 hpv⟩
            obtain ⟨U0, hU0⟩ : ∃ U0, mkT (preS ps j) = U0 := ⟨_, rfl⟩
            have hus0 : U0.size ≤ 400 := by rw [← hU0, mkT_size]; exact hpl
            obtain ⟨U, hU⟩ : ∃ U, U0 ++ ByteArray.mk #[59, 32] = U := ⟨_, rfl⟩
            have hus : U.size ≤ 402 := by
              have e1 : (ByteArray.mk #[59, 32]).size = 2 := rfl
              rw [← hU, ByteArray.size_append]; omega
            have HUR : Hd (mkT (preS ps j ++ [59, 32]) = U) := ⟨by rw [← hU, ← hU0]; exact (mkT_append _ [59, 32]).symm⟩
            rw [hU0]
            have hj0i : (0 : Int) < (j : Int) := by omega
            clear hU0 hy htq hpv hj0
            go_wp2
            refine wp_region_W 11 12 (by kernel_rfl) (by kernel_rfl) (fun w' => w'.cell? ⟨w.heap.size, 0, none⟩ = some (.slice (some ⟨b0, off, none⟩) n c) ∧ w'.cell? ⟨(w.heap.size + 1), 2, none⟩ = some (.slice (some ⟨bp, op, none⟩) m pc) ∧ w'.cell? ⟨bp, op + j, none⟩ = some (.int .i64 (q : Int))) ⟨cb, cb, cell_at _ _ _ _ _⟩ (fun hHeld => ?_)
            refine tkl 0 hHeld ?_
            refine tkp 1 hHeld ?_
            refine tkl 2 hHeld ?_
            refine tkp 3 hHeld ?_
            refine tkp 4 hHeld ?_
            refine tkl 5 hHeld ?_
            refine wpAnyW_one false (i := 6) (by kernel_rfl) rfl (by kernel_rfl) (by rfl) (fun KK hKK => ?_)
            refine st_list rfl ?_
            go_wp2_with fail
            refine (HIH.out _ _ inferInstance inferInstance inferInstance q v hq1 hq2 HTQ.out).mono ?_
            rintro e5 w5 ⟨si, oki, rfl, HR5, hs5, HP⟩
            have HS5 := HP.sep
            have HE5 := HP.ext
            clear HP
            go_wp2
            refine ⟨rfl, ?_⟩
            refine hKK.out _ _ (.inr ⟨cb, cb, cell_at _ _ _ _ _⟩) (fun hHeld => ?_)
            clear hKK KK
            try simp only [Act.put, List.setIfInBounds_toArray, List.set_cons_zero, List.set_cons_succ]
            refine tkp 7 hHeld ?_
            refine tkp 8 hHeld ?_
            refine tkp 9 hHeld ?_
            refine tkp 10 hHeld ?_
            refine wpAnyW_done (by kernel_rfl) ?_
            cases oki
            · have hv0 : v = ByteArray.mk #[] := HR5.out
              have HTE := Hd.mk (HANY.out j v HPV.out (by rw [hv0]; rfl))
              clear hv0
              go_wp2
              refine bodyPost_ret (v := .tuple #[.string ⟨#[]⟩, .bool false]) (by simp [results, Tryd.results54, go_sem]) rfl ?_
              exact SayP.no HTE.out (Nat.zero_le _) (Post.mk' (Ent.sep (S := _) inferInstance inferInstance) inferInstance)
            · obtain ⟨hsv, hv0⟩ : si = v ∧ v.size ≠ 0 := HR5.out
              subst hsv
              have HN0 := Hd.mk hv0
              obtain ⟨Y, hY⟩ : ∃ Y, mkT (preS ps (j + 1)) = Y := ⟨_, rfl⟩
              have hcat : U ++ si = Y := by rw [← hY, HPN.out, ← mkT_append, HUR.out, show mkT (dat si) = si from mkT_data si]
              have HYY := Hd.mk hY
              have hys : Y.size = (preS ps (j + 1)).length := by rw [← hY, mkT_size]
              by_cases hy4 : Y.size ≤ 400
              · have hy4i : ¬ (400 : Int) < (Y.size : Int) := by omega
                have hpl2 : (preS ps (j + 1)).length ≤ 400 := by omega
                clear hv0 hY hys hy4
                go_wp2
                go_roundw
                case rel => exact ⟨j + 1, by omega, by go_num, by rw [HYY.out], hpl2, ⟨fun i u h h2 => by
                  by_cases hij : i = j
                  · subst hij; have h3 := HPV.out; rw [h2] at h3; injection h3 with h3; rw [h3]; exact HN0.out
                  · exact HNE.out i u (by omega) h2⟩, inferInstance, Ent.sep (S := _) inferInstance inferInstance⟩
                case measure => (simp [intOf]; try omega)
              · have hy4i : (400 : Int) < (Y.size : Int) := by omega
                have HTE := Hd.mk (HNO.out (by have := preS_le ps (j + 1); have := HZS.out; have := HOL.out; omega))
                clear hv0 hY hys hy4
                go_wp2
                refine bodyPost_ret (v := .tuple #[.string ⟨#[]⟩, .bool false]) (by simp [results, Tryd.results54, go_sem]) rfl ?_
                exact SayP.no HTE.out (Nat.zero_le _) (Post.mk' (Ent.sep (S := _) inferInstance inferInstance) inferInstance)
        · have : j = m := by omega
          subst this
          have HNE2 : Hd (∀ (i : Nat) (v : ByteArray), ps[i]? = some v → v.size ≠ 0) := ⟨fun i v h => HNE.out i v (by rw [← HPL.out]; exact (List.getElem?_eq_some_iff.1 h).1) h⟩
          obtain ⟨U, hU⟩ : ∃ U, mkT (preS ps j) = U := ⟨_, rfl⟩
          have hus : U.size ≤ 400 := by rw [← hU, mkT_size]; exact hpl
          have hcat : U ++ ByteArray.mk #[93] = Z := by rw [← hU]; exact HFIN.out
          have hzs : Z.size ≤ 401 := by
            have e1 : (ByteArray.mk #[93]).size = 1 := rfl
            rw [← hcat, ByteArray.size_append]; omega
          rw [hU]
          clear hU
          by_cases hz4 : Z.size ≤ 400
          · have HTZ := Hd.mk (HYES.out HNE2.out hz4)
            have hz4i : (Z.size : Int) ≤ 400 := by omega
            go_wp2
            refine bodyPost_ret (v := .tuple #[.string Z, .bool true]) (by simp [results, Tryd.results54, go_sem]) rfl ?_
            exact SayP.yes HTZ.out (by rw [HTZ.out]; exact HZP.out) (by omega) (Post.mk' (Ent.sep (S := _) inferInstance inferInstance) inferInstance)
          · have HTZ := Hd.mk (HNO.out (by omega))
            have hz4i : ¬ (Z.size : Int) ≤ 400 := by omega
            go_wp2
            refine bodyPost_ret (v := .tuple #[.string Z, .bool false]) (by simp [results, Tryd.results54, go_sem]) rfl ?_
            exact SayP.no HTZ.out (by omega) (Post.mk' (Ent.sep (S := _) inferInstance inferInstance) inferInstance)
theorem say_all : ∀ d, SayAll d
  | 0 => by
    intro S w _ A c es _ _ hv k hk hd
    omega
  | d + 1 => say_step d (say_all d)
end Go.Proofs.YtnioipbofopocaaDoor
