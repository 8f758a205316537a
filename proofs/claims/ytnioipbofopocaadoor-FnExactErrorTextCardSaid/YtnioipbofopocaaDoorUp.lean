/- Texts of programs by the program and by the reference. Conditions: the table of powers of ten reads as it is laid; lengths within bounds. -/
import Derived.Test.YtnioipbofopocaaDoorUc
import Derived.Test.YtnioipbofopocaaDoorTc
import Derived.Test.YtnioipbofopocaaDoorIr
import Derived.Test.YtnioipbofopocaaDoorSb
import Derived.Deep.RegionWith
import Derived.WalkSpells
import Derived.Test.YtnioipbofopocaaDoorDu
namespace Go.Proofs.YtnioipbofopocaaDoor
open Go.RowKit SL
attribute [local go_sem] cell_blk frozen_blk lt_blk cell_at frozen_row lt_row
set_option linter.unusedVariables false
set_option linter.unusedSimpArgs false

theorem mkT_nil : mkT [] = ByteArray.mk #[] := rfl
theorem dat_strs (l : List (List UInt8)) : (l.map mkT).map (·.data.toList) = l := by
  rw [List.map_map]
  exact (List.map_congr_left (fun x _ => by simp [mkT])).trans (List.map_id _)
/-- strings.Join over a row that is read. -/
theorem impl_Join (S : HP) (w : World) [H : SepI w S] (A : Option Addr) (c : Nat) (L : List (List UInt8)) [r : Rd S A (strs (L.map mkT))] (n : Nat) (hn : L.length = n) (hn2 : n ≤ 1048576) (hc : n ≤ c) (b : UInt8) (hl : (Lib.join L [b]).length ≤ 1048576) :
    Calls Tryd.prog 70 #[.slice A n c, .string ⟨#[b]⟩] w fun e w' => e = .returned (.string (mkT (Lib.join L [b]))) ∧ Post w S w' := by
  subst hn
  by_cases h0 : L = []
  · subst h0
    refine (Tryd.strings_Join_none A c ⟨#[b]⟩ w).mono ?_
    rintro e w' ⟨rfl, rfl⟩
    exact ⟨rfl, Post.mk' H inferInstance⟩
  · have hp : 0 < L.length := List.length_pos_iff.2 h0
    rcases r.out w H with h | ⟨bk, off, hA, hb, hcell⟩
    · have := congrArg List.length h
      rw [strs_len, List.length_map] at this
      simp at this
      exact absurd this h0
    · subst hA
      have h1 := Tryd.strings_Join bk off c (L.map mkT) ⟨#[b]⟩ w (fun j x hx => hcell j _ (strs_get hx)) hb (by rw [List.length_map]; omega) (by rw [List.length_map]; exact hc) (by rw [dat_strs]; exact Nat.le_trans hl (by omega))
      rw [List.length_map, dat_strs] at h1
      refine h1.mono ?_
      rintro e w' ⟨rfl, hbl⟩
      exact ⟨rfl, Post.mk' (H.below hbl) ⟨hbl.os, hbl.tape, hbl.output, hbl.size⟩⟩
theorem numB_size {n : Int} (h0 : -99999 ≤ n) (h1 : n ≤ 99999) : (numB n).size ≤ 21 := by
  unfold numB
  rw [mkT_size]
  exact Lib.itoa_length_le n (by omega) (by omega)
theorem st_cat (s : St) : numB s.k ++ ⟨#[46]⟩ ++ numB s.a ++ ⟨#[46]⟩ ++ numB s.b = mkT (stT s) := by
  show mkT _ ++ mkT [46] ++ mkT _ ++ mkT [46] ++ mkT _ = _
  rw [mkT_append, mkT_append, mkT_append, mkT_append]; rfl
theorem st_cat2 (R : List UInt8) (s : St) : mkT R ++ numB s.k ++ ⟨#[46]⟩ ++ numB s.a ++ ⟨#[46]⟩ ++ numB s.b = mkT (R ++ stT s) := by
  show mkT R ++ mkT _ ++ mkT [46] ++ mkT _ ++ mkT [46] ++ mkT _ = _
  rw [mkT_append, mkT_append, mkT_append, mkT_append, mkT_append]
  unfold stT
  simp only [List.append_assoc]
/-- The numbers of a step lie within bounds. -/
def SmSt (s : St) : Prop := (-99999 ≤ s.k ∧ s.k ≤ 99999) ∧ (-99999 ≤ s.a ∧ s.a ≤ 99999) ∧ (-99999 ≤ s.b ∧ s.b ≤ 99999)
set_option maxRecDepth 100000 in
set_option maxHeartbeats 4000000 in
theorem impl_StepText (S : HP) (w : World) [H : SepI w S] [t : TabI S] (s : St) (hs : SmSt s) :
    Calls Tryd.prog 69 #[.agg #[.int .i64 s.k, .int .i64 s.a, .int .i64 s.b]] w fun e w' => e = .returned (.string (mkT (stT s))) ∧ Post w S w' := by
  have HC := Hd.mk (st_cat s)
  obtain ⟨k, a, b⟩ := s
  obtain ⟨hk0, ha0, hb0⟩ := hs
  simp only at hk0 ha0 hb0
  have sk := numB_size hk0.1 hk0.2
  have sa := numB_size ha0.1 ha0.2
  have sb := numB_size hb0.1 hb0.2
  obtain ⟨nk, hnk⟩ : ∃ nk, numB k = nk := ⟨_, rfl⟩
  obtain ⟨na, hna⟩ : ∃ na, numB a = na := ⟨_, rfl⟩
  obtain ⟨nb, hnb⟩ : ∃ nb, numB b = nb := ⟨_, rfl⟩
  have HNk := Hd.mk hnk
  have HNa := Hd.mk hna
  have HNb := Hd.mk hnb
  simp only [hnk, hna, hnb] at HC
  rw [hnk] at sk
  rw [hna] at sa
  rw [hnb] at sb
  have hk : -9223372036854775808 ≤ k ∧ k ≤ 9223372036854775807 := by omega
  have ha : -9223372036854775808 ≤ a ∧ a ≤ 9223372036854775807 := by omega
  have hb : -9223372036854775808 ≤ b ∧ b ≤ 9223372036854775807 := by omega
  have hc1 : ¬ 9223372036854775807 < nk.size + 1 := by omega
  have hc2 : ¬ 9223372036854775807 < nk.size + 1 + na.size := by omega
  have hc3 : ¬ 9223372036854775807 < nk.size + 1 + na.size + 1 := by omega
  have hc4 : ¬ 9223372036854775807 < nk.size + 1 + na.size + 1 + nb.size := by omega
  clear hnk hna hnb hk0 ha0 hb0
  simp only
  go_enter Tryd.func69, Tryd.ntmps69
  go_wp2
  refine wp_region_W 12 14 (by kernel_rfl) (by kernel_rfl) (fun w' => w'.cell? ⟨w.heap.size, 0, none⟩ = some (.int .i64 k) ∧ w'.cell? ⟨w.heap.size, 1, none⟩ = some (.int .i64 a) ∧ w'.cell? ⟨w.heap.size, 2, none⟩ = some (.int .i64 b)) ⟨cb, cb, cb⟩ (fun hHeld => ?_)
  refine tkp 0 hHeld ?_
  refine tkl 1 hHeld ?_
  refine tkp 4 hHeld ?_
  refine tkl 5 hHeld ?_
  refine tkp 9 hHeld ?_
  refine tkl 10 hHeld ?_
  refine wpAnyW_one false (i := 2) (by kernel_rfl) rfl (by kernel_rfl) (by rfl) (fun KK hKK => ?_)
  refine st_list rfl ?_
  go_wp2_with fail
  refine (impl_Itoa _ _ k hk.1 hk.2).mono ?_
  rw [HNk.out]
  rintro e1 w1 ⟨rfl, HP⟩
  have HS1 := HP.sep
  have HE1 := HP.ext
  clear HP
  go_wp2
  refine ⟨rfl, ?_⟩
  refine hKK.out _ _ (.inr ⟨cb, cb, cb⟩) (fun hHeld => ?_)
  clear hKK KK
  try simp only [Act.put, List.setIfInBounds_toArray, List.set_cons_zero, List.set_cons_succ]
  refine tkp 3 hHeld ?_
  refine wpAnyW_one false (i := 6) (by kernel_rfl) rfl (by kernel_rfl) (by rfl) (fun KK hKK => ?_)
  refine st_list rfl ?_
  go_wp2_with fail
  refine (impl_Itoa _ _ a ha.1 ha.2).mono ?_
  rw [HNa.out]
  rintro e2 w2 ⟨rfl, HP⟩
  have HS2 := HP.sep
  have HE2 := HP.ext
  clear HP
  go_wp2
  refine ⟨rfl, ?_⟩
  refine hKK.out _ _ (.inr ⟨cb, cb, cb⟩) (fun hHeld => ?_)
  clear hKK KK
  try simp only [Act.put, List.setIfInBounds_toArray, List.set_cons_zero, List.set_cons_succ]
  refine tkp 7 hHeld ?_
  refine tkp 8 hHeld ?_
  refine wpAnyW_one false (i := 11) (by kernel_rfl) rfl (by kernel_rfl) (by rfl) (fun KK hKK => ?_)
  refine st_list rfl ?_
  go_wp2_with fail
  refine (impl_Itoa _ _ b hb.1 hb.2).mono ?_
  rw [HNb.out]
  rintro e3 w3 ⟨rfl, HP⟩
  have HS3 := HP.sep
  have HE3 := HP.ext
  clear HP
  go_wp2
  refine ⟨rfl, ?_⟩
  refine hKK.out _ _ (.inr ⟨cb, cb, cb⟩) (fun hHeld => ?_)
  clear hKK KK
  try simp only [Act.put, List.setIfInBounds_toArray, List.set_cons_zero, List.set_cons_succ]
  refine wpAnyW_done (by kernel_rfl) ?_
  go_wp2
  go_ret
  exact ⟨by rw [← HC.out]; rfl, Post.mk' (Ent.sep (S := _) inferInstance inferInstance) inferInstance⟩
/-- The text of a program, if it is valid. -/
def ans_PT (L : List (List St)) : ByteArray × Bool := if progB L = true then (mkT (progT L), true) else (ByteArray.mk #[], false)
theorem ans_PT_yes {L : List (List St)} (h : progB L = true) : ans_PT L = (mkT (progT L), true) := if_pos h
theorem ans_PT_no {L : List (List St)} (h : progB L = false) : ans_PT L = (ByteArray.mk #[], false) := if_neg (by rw [h]; simp)
/-- What is known of a valid program. -/
theorem prog_facts {L : List (List St)} (h : progB L = true) : (1 ≤ L.length ∧ L.length ≤ 6) ∧ ∀ l ∈ L, l.length ≤ 8 ∧ (bodyT l).length ≤ 136 ∧ ∀ s ∈ l, SmSt s ∧ (stT s).length ≤ 16 := by
  unfold progB at h
  simp only [Bool.and_eq_true, List.all_eq_true] at h
  have hb := inB_true h.1
  refine ⟨by omega, fun l hl => ?_⟩
  have h2 := h.2 l hl
  have h3 := h2
  unfold bodyB at h2
  simp only [Bool.and_eq_true, decide_eq_true_eq, List.all_eq_true] at h2
  refine ⟨h2.1, bodyT_len (n := L.length) (by omega) h3, fun s hs => ?_⟩
  have h4 := h2.2 s hs
  have h5 := step_small (n := L.length) (by omega) h4
  exact ⟨⟨by omega, h5.2⟩, stT_len (n := L.length) (by omega) h4⟩
theorem join_step (L : List (List UInt8)) (b : UInt8) {i : Nat} {x : List UInt8} (h : L[i]? = some x) : Lib.join (L.take (i + 1)) [b] = (if i = 0 then x else Lib.join (L.take i) [b] ++ [b] ++ x) := by
  rw [take_succ_eq h]
  by_cases h0 : i = 0
  · subst h0; rw [if_pos rfl, List.take_zero, List.nil_append, Lib.join_one]
  · rw [if_neg h0, join_end]
    intro e
    have h1 := congrArg List.length e
    have h2 := (List.getElem?_eq_some_iff.1 h).1
    rw [List.length_take] at h1
    simp at h1
    rcases h1 with h1 | h1
    · exact h0 h1
    · rw [h1] at h2; simp at h2
theorem join_take_le (B : Nat) (b : UInt8) {L : List (List UInt8)} (h : ∀ x ∈ L, x.length ≤ B) (i : Nat) : (Lib.join (L.take i) [b]).length ≤ L.length * (B + 1) := by
  refine Nat.le_trans (join_len B [b] (L.take i) fun x hx => h x (List.mem_of_mem_take hx)) ?_
  rw [List.length_singleton]
  exact Nat.mul_le_mul_right _ (by rw [List.length_take]; omega)
theorem strs_next {L : List (List UInt8)} {k : Nat} {x : List UInt8} (h : L[k]? = some x) : strs ((L.take k).map mkT) ++ #[Value.string (mkT x)].toList = strs ((L.take (k + 1)).map mkT) := by
  rw [take_succ_eq h, List.map_append, strs_append]; rfl
set_option maxRecDepth 100000 in
set_option maxHeartbeats 4000000 in
theorem impl_ProgramText (S : HP) (w : World) [H : SepI w S] [t : TabI S] (A : Option Addr) (c : Nat) (bs : List Bd) [r : Rd S A (cBds bs)] [B : Bodies S bs] :
    Calls Tryd.prog 37 #[.agg #[.slice A bs.length c]] w (StrOk S (ans_PT (bs.map (·.l))) w) := by
  have hnot : ∀ (x : Bool) (w : World), (Op.unary .not (.bool x)).run Tryd.prog w = .ok (.bool (!x)) w := fun _ _ => rfl
  have HB := Hd.mk B
  obtain ⟨v, hv⟩ : ∃ v, progB (bs.map (·.l)) = v := ⟨_, rfl⟩
  have HV := Hd.mk hv
  cases v
  · rw [ans_PT_no hv]
    clear hv
    go_enter Tryd.func37, Tryd.ntmps37
    go_wp2_with fail
    refine (impl_IsProgram _ _ _ _ bs _ HV.out).mono ?_
    rintro e w1 ⟨rfl, HP⟩
    have HS1 := HP.sep
    have HE1 := HP.ext
    clear HP
    go_wp2
    refine bodyPost_ret (v := .tuple #[.string ⟨#[]⟩, .bool false]) (by simp [results, Tryd.results37, go_sem]) rfl ?_
    exact ⟨rfl, Post.mk' (Ent.sep (S := _) inferInstance inferInstance) inferInstance⟩
  · have HAN := Hd.mk (ans_PT_yes hv)
    rw [HAN.out]
    obtain ⟨hn16, hbody⟩ := prog_facts hv
    rw [List.length_map] at hn16
    have HBD : Hd (∀ (k : Nat) (x : Bd), bs[k]? = some x → x.l.length ≤ 8 ∧ (bodyT x.l).length ≤ 136 ∧ ∀ s ∈ x.l, SmSt s ∧ (stT s).length ≤ 16) := ⟨fun k x h => hbody _ (List.mem_map.2 ⟨x, List.mem_of_getElem? h, rfl⟩)⟩
    obtain ⟨n, hn⟩ : ∃ n, n = bs.length := ⟨_, rfl⟩
    obtain ⟨TS, hTS⟩ : ∃ TS, TS = (bs.map (·.l)).map bodyT := ⟨_, rfl⟩
    have HTL : Hd (TS.length = n) := ⟨by rw [hTS, List.length_map, List.length_map, hn]⟩
    have HTS : Hd (∀ (k : Nat) (x : Bd), bs[k]? = some x → TS[k]? = some (bodyT x.l)) := ⟨fun k x h => by rw [hTS, List.getElem?_map, List.getElem?_map, h]; rfl⟩
    have HTP : Hd (progT (bs.map (·.l)) = Lib.join TS [47]) := ⟨by rw [hTS]; rfl⟩
    have HTB : Hd (∀ x ∈ TS, x.length ≤ 136) := ⟨fun x hx => by
      rw [hTS] at hx
      obtain ⟨l, hl, rfl⟩ := List.mem_map.1 hx
      exact (hbody l hl).2.1⟩
    have HTJ : Hd (∀ f, (Lib.join (TS.take f) [47]).length ≤ 822) := ⟨fun f => by
      have h1 := join_take_le 136 47 HTB.out f
      rw [HTL.out] at h1
      omega⟩
    have HN := Hd.mk hn
    rw [← hn]
    rw [← hn] at hn16
    have HIP : Hd (∀ (S' : HP) (w' : World), SepI w' S' → Rd S' A (cBds bs) → Bodies S' bs → Calls Tryd.prog 63 #[.agg #[.slice A n c]] w' fun e w'' => e = .returned (.bool true) ∧ Post w' S' w'') := ⟨fun S' w' h1 h2 h3 => by rw [hn]; exact impl_IsProgram S' w' A c bs true HV.out⟩
    clear hv hbody hn hTS
    go_enter Tryd.func37, Tryd.ntmps37
    go_wp2_with fail
    refine (HIP.out _ _ inferInstance inferInstance inferInstance).mono ?_
    rintro e w1 ⟨rfl, HP⟩
    have HS1 := HP.sep
    have HE1 := HP.ext
    clear HP
    go_wp2
    go_loopw [4, 17] (fun v4 v17 wr => ∃ (f : Nat) (vv : Value), f ≤ n ∧ v17 = .int .i64 f ∧ v4 = vv ∧ ExtI w wr ∧ SepI wr (Row 9 1 vv f (strs ((TS.take f).map mkT)) * (pts w.heap.size (.cells #[.slice A n c] 48 (0, 0)) * S))) (fun _ v _ => n - (intOf v).toNat)
    case atStart => exact ⟨0, .slice (some ⟨w1.heap.size, 0, none⟩) 0 0, Nat.zero_le _, rfl, rfl, inferInstance, by exact Row.nil0 inferInstance⟩
    case round =>
      obtain ⟨k, vv, hk, rfl, rfl, HX, HS⟩ := hrel
      obtain ⟨A4, c4, rfl, hc40, hc41⟩ := Row.form HS
      by_cases hlt : k < n
      · obtain ⟨x, hx⟩ := get_ex (xs := bs) (k := k) (by rw [← HN.out]; exact hlt)
        obtain ⟨b, off, rfl⟩ := r.addr H (j := k) (by rw [cBds_len, ← HN.out]; exact hlt)
        have c1 := r.cell (cBds_get hx)
        have rx := HB.out.rd x (List.mem_of_getElem? hx)
        obtain ⟨hl8, hlb, hss⟩ := HBD.out k x hx
        have HSS := Hd.mk hss
        have HTK := Hd.mk (strs_next (HTS.out k x hx))
        obtain ⟨p, xc, l⟩ := x
        simp only at c1 rx hl8 hlb HSS HTK
        obtain ⟨m, hm⟩ : ∃ m, m = l.length := ⟨_, rfl⟩
        have HM := Hd.mk hm
        rw [← hm] at c1 hl8
        obtain ⟨WS, hWS⟩ : ∃ WS, WS = l.map stT := ⟨_, rfl⟩
        have HWL : Hd (WS.length = m) := ⟨by rw [hWS, List.length_map, hm]⟩
        have HWS : Hd (∀ (i : Nat) (s : St), l[i]? = some s → WS[i]? = some (stT s)) := ⟨fun i s h => by rw [hWS, List.getElem?_map, h]; rfl⟩
        have HWJ : Hd (Lib.join WS [32] = bodyT l) := ⟨by rw [hWS]; rfl⟩
        clear hx hss hm hWS
        go_wp2
        go_loopw [7, 24] (fun v7 v24 wq => ∃ (i : Nat) (ww : Value), i ≤ m ∧ v24 = .int .i64 i ∧ v7 = ww ∧ ExtI w wq ∧ SepI wq (Row 9 1 ww i (strs ((WS.take i).map mkT)) * (Row 9 1 (.slice A4 k c4) k (strs ((TS.take k).map mkT)) * (pts w.heap.size (.cells #[.slice (some ⟨b, off, none⟩) n c] 48 (0, 0)) * S)))) (fun _ v _ => m - (intOf v).toNat)
        case atStart => exact ⟨0, .slice (some ⟨wr.heap.size, 0, none⟩) 0 0, Nat.zero_le _, rfl, rfl, inferInstance, by exact Row.nil0 inferInstance⟩
        case round =>
          obtain ⟨i, ww, hi, rfl, rfl, HX2, HS2⟩ := hrel
          obtain ⟨A7, c7, rfl, hc70, hc71⟩ := Row.form HS2
          by_cases hlt2 : i < m
          · obtain ⟨s, hs⟩ := get_ex (xs := l) (k := i) (by rw [← HM.out]; exact hlt2)
            obtain ⟨bp, op, rfl⟩ := rx.addr H (j := i * 3) (by rw [cSts_len, ← HM.out]; omega)
            have d1 := rx.cell (cSts_get hs).1
            have d2 := rx.cell (cSts_get hs).2.1
            have d3 := rx.cell (cSts_get hs).2.2
            have hsm := HSS.out s (List.mem_of_getElem? hs)
            have HSM := Hd.mk hsm.1
            have HWK := Hd.mk (strs_next (HWS.out i s hs))
            clear hs hsm
            go_wp2_with fail
            refine (impl_StepText _ _ s HSM.out).mono ?_
            rintro e w5 ⟨rfl, HP⟩
            have HS5 := HP.sep
            have HE5 := HP.ext
            clear HP
            go_wp2_with (at_builtin; go_must (refine ev_append (v := .slice A7 i c7) rfl _ _ 25 rfl rfl 16 _ Tryd.underlying25 info_string rfl (by decide) (by decide) (w5.heap.size) 1 1 rfl rfl (by simp [Value.oneCell']) (by omega) ?_); intro v6 w6 HS6 HE6; replace HS6 := Row.asS HS6 rfl (HWK).out)
            go_roundw
            case rel => exact ⟨i + 1, v6, by omega, by go_num, rfl, inferInstance, Ent.sep (S := _) inferInstance HS6⟩
            case measure => (simp [intOf]; try omega)
          · have : i = m := by omega
            subst this
            rw [List.take_of_length_le (by rw [HWL.out]; exact Nat.le_refl _)] at HS2
            go_wp2_with fail
            refine (impl_Join _ _ A7 c7 WS i HWL.out (by omega) hc70 32 (by rw [HWJ.out]; omega)).mono ?_
            rw [HWJ.out]
            rintro e w8 ⟨rfl, HP⟩
            have HS8 := HP.sep
            have HE8 := HP.ext
            clear HP
            go_wp2_with (at_builtin; go_must (refine ev_append (v := .slice A4 k c4) rfl _ _ 25 rfl rfl 16 _ Tryd.underlying25 info_string rfl (by decide) (by decide) (w8.heap.size) 1 1 rfl rfl (by simp [Value.oneCell']) (by omega) ?_); intro v9 w9 HS9 HE9; replace HS9 := Row.asS HS9 rfl (HTK).out)
            go_roundw
            case rel => exact ⟨k + 1, v9, by omega, by go_num, rfl, inferInstance, Ent.sep (S := _) inferInstance HS9⟩
            case measure => (simp [intOf]; try omega)
      · have : k = n := by omega
        subst this
        rw [List.take_of_length_le (by rw [HTL.out]; exact Nat.le_refl _)] at HS
        have hj := HTJ.out k
        rw [List.take_of_length_le (by rw [HTL.out]; exact Nat.le_refl _)] at hj
        go_wp2_with fail
        refine (impl_Join _ _ A4 c4 TS k HTL.out (by omega) hc40 47 (by omega)).mono ?_
        rw [← HTP.out]
        rintro e w8 ⟨rfl, HP⟩
        have HS8 := HP.sep
        have HE8 := HP.ext
        clear HP
        go_wp2
        refine bodyPost_ret (v := .tuple #[.string (mkT (progT (bs.map (·.l)))), .bool true]) (by simp [results, Tryd.results37, go_sem]) rfl ?_
        exact ⟨rfl, Post.mk' (Ent.sep (S := _) inferInstance inferInstance) inferInstance⟩
set_option maxRecDepth 100000 in
set_option maxHeartbeats 4000000 in
theorem spec_l2Text (S : HP) (w : World) [H : SepI w S] (A : Option Addr) (c : Nat) (bs : List Bd) [r : Rd S A (cBds bs)] [B : Bodies S bs] (hv : progB (bs.map (·.l)) = true) :
    Calls Tryd.prog 61 #[.agg #[.slice A bs.length c]] w fun e w' => e = .returned (.string (mkT (progT (bs.map (·.l))))) ∧ Post w S w' := by
  have HB := Hd.mk B
  obtain ⟨hn16, hbody⟩ := prog_facts hv
  rw [List.length_map] at hn16
  have HBD : Hd (∀ (k : Nat) (x : Bd), bs[k]? = some x → x.l.length ≤ 8 ∧ (bodyT x.l).length ≤ 136 ∧ ∀ s ∈ x.l, SmSt s ∧ (stT s).length ≤ 16) := ⟨fun k x h => hbody _ (List.mem_map.2 ⟨x, List.mem_of_getElem? h, rfl⟩)⟩
  obtain ⟨n, hn⟩ : ∃ n, n = bs.length := ⟨_, rfl⟩
  obtain ⟨TS, hTS⟩ : ∃ TS, TS = (bs.map (·.l)).map bodyT := ⟨_, rfl⟩
  have HTL : Hd (TS.length = n) := ⟨by rw [hTS, List.length_map, List.length_map, hn]⟩
  have HTS : Hd (∀ (k : Nat) (x : Bd), bs[k]? = some x → TS[k]? = some (bodyT x.l)) := ⟨fun k x h => by rw [hTS, List.getElem?_map, List.getElem?_map, h]; rfl⟩
  have HTP : Hd (progT (bs.map (·.l)) = Lib.join TS [47]) := ⟨by rw [hTS]; rfl⟩
  have HTB : Hd (∀ x ∈ TS, x.length ≤ 136) := ⟨fun x hx => by
    rw [hTS] at hx
    obtain ⟨l, hl, rfl⟩ := List.mem_map.1 hx
    exact (hbody l hl).2.1⟩
  have HTJ : Hd (∀ f, (Lib.join (TS.take f) [47]).length ≤ 822) := ⟨fun f => by
    have h1 := join_take_le 136 47 HTB.out f
    rw [HTL.out] at h1
    omega⟩
  have HN := Hd.mk hn
  rw [← hn]
  rw [← hn] at hn16
  clear hv hbody hn hTS
  go_enter Tryd.func61, Tryd.ntmps61
  go_wp2
  go_loopw [3, 4] (fun v3 v4 wr => ∃ f : Nat, f ≤ n ∧ v4 = .int .i64 f ∧ v3 = .string (mkT (Lib.join (TS.take f) [47])) ∧ ExtI w wr ∧ SepI wr (pts w.heap.size (.cells #[.slice A n c] 48 (0, 0)) * S)) (fun _ v _ => n - (intOf v).toNat)
  case atStart => exact ⟨0, Nat.zero_le _, rfl, rfl, inferInstance, inferInstance⟩
  case round =>
    obtain ⟨f, hf, rfl, rfl, HX, HS⟩ := hrel
    by_cases hlt : f < n
    · obtain ⟨x, hx⟩ := get_ex (xs := bs) (k := f) (by rw [← HN.out]; exact hlt)
      obtain ⟨bo, off, rfl⟩ := r.addr H (j := f) (by rw [cBds_len, ← HN.out]; exact hlt)
      have c1 := r.cell (cBds_get hx)
      have rx := HB.out.rd x (List.mem_of_getElem? hx)
      obtain ⟨hl8, hlb, hss⟩ := HBD.out f x hx
      have HSS := Hd.mk hss
      have HXX := Hd.mk (HTS.out f x hx)
      obtain ⟨p, xc, l⟩ := x
      simp only at c1 rx hl8 hlb HSS HXX
      obtain ⟨m, hm⟩ : ∃ m, m = l.length := ⟨_, rfl⟩
      have HM := Hd.mk hm
      rw [← hm] at c1 hl8
      obtain ⟨WS, hWS⟩ : ∃ WS, WS = l.map stT := ⟨_, rfl⟩
      have HWL : Hd (WS.length = m) := ⟨by rw [hWS, List.length_map, hm]⟩
      have HWS : Hd (∀ (i : Nat) (s : St), l[i]? = some s → WS[i]? = some (stT s)) := ⟨fun i s h => by rw [hWS, List.getElem?_map, h]; rfl⟩
      have HWJ : Hd (Lib.join WS [32] = bodyT l) := ⟨by rw [hWS]; rfl⟩
      have HWB : Hd (∀ j, (Lib.join (WS.take j) [32]).length ≤ 136) := ⟨fun j => by
        have h1 := join_take_le 16 32 (L := WS) (fun x hx => by
          rw [hWS] at hx
          obtain ⟨s, hs, rfl⟩ := List.mem_map.1 hx
          exact (HSS.out s hs).2) j
        rw [HWL.out] at h1
        omega⟩
      have hj822 := HTJ.out f
      clear hx hss hm hWS
      rcases Nat.eq_zero_or_pos f with hf0 | hf0
      · have hf0i : ¬ (0 : Int) < (f : Int) := by omega
        have HBF : Hd (([] : List UInt8).length ≤ 823) := ⟨Nat.zero_le _⟩
        have HNX : Hd (mkT ([] ++ bodyT l) = mkT (Lib.join (TS.take (f + 1)) [47])) := ⟨by rw [join_step TS 47 HXX.out, if_pos hf0, List.nil_append]⟩
        rw [show Lib.join (TS.take f) [47] = [] from by rw [hf0]; rfl]
        clear hf0
        go_wp2
        go_loopw [3, 5] (fun v3 v5 wq => ∃ j : Nat, j ≤ m ∧ v5 = .int .i64 j ∧ v3 = .string (mkT (([] : List UInt8) ++ Lib.join (WS.take j) [32])) ∧ ExtI w wq ∧ SepI wq (pts w.heap.size (.cells #[.slice (some ⟨bo, off, none⟩) n c] 48 (0, 0)) * S)) (fun _ v _ => m - (intOf v).toNat)
        case atStart => exact ⟨0, Nat.zero_le _, rfl, by rw [List.take_zero, Lib.join_nil, List.append_nil], inferInstance, inferInstance⟩
        case round =>
          obtain ⟨j, hj, rfl, rfl, HX2, HS2⟩ := hrel
          by_cases hlt2 : j < m
          · rcases Nat.eq_zero_or_pos j with hj0 | hj0
            · subst hj0
              obtain ⟨⟨k, a, b⟩, hs⟩ := get_ex (xs := l) (k := 0) (by rw [← HM.out]; exact hlt2)
              obtain ⟨bp, op, rfl⟩ := rx.addr H (j := 0 * 3) (by rw [cSts_len, ← HM.out]; omega)
              have d1 := rx.cell (cSts_get hs).1
              have d2 := rx.cell (cSts_get hs).2.1
              have d3 := rx.cell (cSts_get hs).2.2
              have hsm := HSS.out _ (List.mem_of_getElem? hs)
              obtain ⟨hk0, ha0, hb0⟩ := hsm.1
              simp only at hk0 ha0 hb0 d1 d2 d3
              have HJN : Hd (([] : List UInt8) ++ Lib.join (WS.take (0 + 1)) [32] = ([] : List UInt8) ++ stT ⟨k, a, b⟩) := ⟨by rw [join_step WS 32 (HWS.out 0 _ hs)]; rw [if_pos rfl]⟩
              have HC : Hd (mkT ([] : List UInt8) ++ numB k ++ ⟨#[46]⟩ ++ numB a ++ ⟨#[46]⟩ ++ numB b = mkT (([] : List UInt8) ++ Lib.join (WS.take (0 + 1)) [32])) := ⟨by rw [HJN.out]; exact st_cat2 _ ⟨k, a, b⟩⟩
              have sk := numB_size hk0.1 hk0.2
              have sa := numB_size ha0.1 ha0.2
              have sb := numB_size hb0.1 hb0.2
              obtain ⟨nk, hnk⟩ : ∃ nk, numB k = nk := ⟨_, rfl⟩
              obtain ⟨na, hna⟩ : ∃ na, numB a = na := ⟨_, rfl⟩
              obtain ⟨nb, hnb⟩ : ∃ nb, numB b = nb := ⟨_, rfl⟩
              have HNk := Hd.mk hnk
              have HNa := Hd.mk hna
              have HNb := Hd.mk hnb
              rw [hnk, hna, hnb] at HC
              rw [hnk] at sk
              rw [hna] at sa
              rw [hnb] at sb
              have hk : -9223372036854775807 < k ∧ k < 9223372036854775807 := by omega
              have ha : -9223372036854775807 < a ∧ a < 9223372036854775807 := by omega
              have hb : -9223372036854775807 < b ∧ b < 9223372036854775807 := by omega
              obtain ⟨T, hT⟩ : ∃ T, mkT ([] : List UInt8) = T := ⟨_, rfl⟩
              have hts : T.size ≤ 823 := by rw [← hT, mkT_size]; exact HBF.out
              have hv3 : mkT (([] : List UInt8) ++ Lib.join (WS.take 0) [32]) = T := by rw [← hT, List.take_zero, Lib.join_nil, List.append_nil]
              rw [hT] at HC
              rw [hv3]
              clear hv3 hT
              have hc0 : ¬ 9223372036854775807 < T.size + nk.size := by omega
              have hc1 : ¬ 9223372036854775807 < T.size + nk.size + 1 := by omega
              have hc2 : ¬ 9223372036854775807 < T.size + nk.size + 1 + na.size := by omega
              have hc3 : ¬ 9223372036854775807 < T.size + nk.size + 1 + na.size + 1 := by omega
              have hc4 : ¬ 9223372036854775807 < T.size + nk.size + 1 + na.size + 1 + nb.size := by omega
              clear hs hsm hnk hna hnb hk0 ha0 hb0
              go_wp2
              refine wp_region_W 14 16 (by kernel_rfl) (by kernel_rfl) (fun w' => w'.cell? ⟨wr.heap.size, 0, none⟩ = some (.int .i64 k) ∧ w'.cell? ⟨wr.heap.size, 1, none⟩ = some (.int .i64 a) ∧ w'.cell? ⟨wr.heap.size, 2, none⟩ = some (.int .i64 b)) ⟨cb, cb, cb⟩ (fun hHeld => ?_)
              refine tkp 0 hHeld ?_
              refine tkp 1 hHeld ?_
              refine tkl 2 hHeld ?_
              refine tkp 6 hHeld ?_
              refine tkl 7 hHeld ?_
              refine tkp 11 hHeld ?_
              refine tkl 12 hHeld ?_
              refine wpAnyW_one false (i := 3) (by kernel_rfl) rfl (by kernel_rfl) (by rfl) (fun KK hKK => ?_)
              refine st_list rfl ?_
              go_wp2_with fail
              refine (spec_l1NumA _ _ k hk.1 hk.2).mono ?_
              rw [HNk.out]
              rintro e1 w1 ⟨rfl, HP⟩
              have HS1 := HP.sep
              have HE1 := HP.ext
              clear HP
              go_wp2
              refine ⟨rfl, ?_⟩
              refine hKK.out _ _ (.inr ⟨cb, cb, cb⟩) (fun hHeld => ?_)
              clear hKK KK
              try simp only [Act.put, List.setIfInBounds_toArray, List.set_cons_zero, List.set_cons_succ]
              refine tkp 4 hHeld ?_
              refine tkp 5 hHeld ?_
              refine wpAnyW_one false (i := 8) (by kernel_rfl) rfl (by kernel_rfl) (by rfl) (fun KK hKK => ?_)
              refine st_list rfl ?_
              go_wp2_with fail
              refine (spec_l1NumA _ _ a ha.1 ha.2).mono ?_
              rw [HNa.out]
              rintro e2 w2 ⟨rfl, HP⟩
              have HS2 := HP.sep
              have HE2 := HP.ext
              clear HP
              go_wp2
              refine ⟨rfl, ?_⟩
              refine hKK.out _ _ (.inr ⟨cb, cb, cb⟩) (fun hHeld => ?_)
              clear hKK KK
              try simp only [Act.put, List.setIfInBounds_toArray, List.set_cons_zero, List.set_cons_succ]
              refine tkp 9 hHeld ?_
              refine tkp 10 hHeld ?_
              refine wpAnyW_one false (i := 13) (by kernel_rfl) rfl (by kernel_rfl) (by rfl) (fun KK hKK => ?_)
              refine st_list rfl ?_
              go_wp2_with fail
              refine (spec_l1NumA _ _ b hb.1 hb.2).mono ?_
              rw [HNb.out]
              rintro e3 w3 ⟨rfl, HP⟩
              have HS3 := HP.sep
              have HE3 := HP.ext
              clear HP
              go_wp2
              refine ⟨rfl, ?_⟩
              refine hKK.out _ _ (.inr ⟨cb, cb, cb⟩) (fun hHeld => ?_)
              clear hKK KK
              try simp only [Act.put, List.setIfInBounds_toArray, List.set_cons_zero, List.set_cons_succ]
              refine wpAnyW_done (by kernel_rfl) ?_
              go_wp2
              go_roundw
              case rel => exact ⟨0 + 1, by omega, by go_num, by rw [← HC.out], inferInstance, Ent.sep (S := _) inferInstance inferInstance⟩
              case measure => (simp [intOf]; try omega)
            · have hj0i : (0 : Int) < (j : Int) := by omega
              obtain ⟨⟨k, a, b⟩, hs⟩ := get_ex (xs := l) (k := j) (by rw [← HM.out]; exact hlt2)
              obtain ⟨bp, op, rfl⟩ := rx.addr H (j := j * 3) (by rw [cSts_len, ← HM.out]; omega)
              have d1 := rx.cell (cSts_get hs).1
              have d2 := rx.cell (cSts_get hs).2.1
              have d3 := rx.cell (cSts_get hs).2.2
              have hsm := HSS.out _ (List.mem_of_getElem? hs)
              obtain ⟨hk0, ha0, hb0⟩ := hsm.1
              simp only at hk0 ha0 hb0 d1 d2 d3
              have HJN : Hd (([] : List UInt8) ++ Lib.join (WS.take (j + 1)) [32] = (([] : List UInt8) ++ Lib.join (WS.take j) [32] ++ [32]) ++ stT ⟨k, a, b⟩) := ⟨by rw [join_step WS 32 (HWS.out j _ hs)]; rw [if_neg (by omega)]; simp only [List.append_assoc]⟩
              have HC : Hd (mkT (([] : List UInt8) ++ Lib.join (WS.take j) [32] ++ [32]) ++ numB k ++ ⟨#[46]⟩ ++ numB a ++ ⟨#[46]⟩ ++ numB b = mkT (([] : List UInt8) ++ Lib.join (WS.take (j + 1)) [32])) := ⟨by rw [HJN.out]; exact st_cat2 _ ⟨k, a, b⟩⟩
              have sk := numB_size hk0.1 hk0.2
              have sa := numB_size ha0.1 ha0.2
              have sb := numB_size hb0.1 hb0.2
              obtain ⟨nk, hnk⟩ : ∃ nk, numB k = nk := ⟨_, rfl⟩
              obtain ⟨na, hna⟩ : ∃ na, numB a = na := ⟨_, rfl⟩
              obtain ⟨nb, hnb⟩ : ∃ nb, numB b = nb := ⟨_, rfl⟩
              have HNk := Hd.mk hnk
              have HNa := Hd.mk hna
              have HNb := Hd.mk hnb
              rw [hnk, hna, hnb] at HC
              rw [hnk] at sk
              rw [hna] at sa
              rw [hnb] at sb
              have hk : -9223372036854775807 < k ∧ k < 9223372036854775807 := by omega
              have ha : -9223372036854775807 < a ∧ a < 9223372036854775807 := by omega
              have hb : -9223372036854775807 < b ∧ b < 9223372036854775807 := by omega
              obtain ⟨T0, hT0⟩ : ∃ T0, mkT (([] : List UInt8) ++ Lib.join (WS.take j) [32]) = T0 := ⟨_, rfl⟩
              have hts0 : T0.size ≤ 823 + 136 := by
                have h1 := HWB.out j
                have h2 := HBF.out
                rw [← hT0, mkT_size, List.length_append]; omega
              obtain ⟨T, hT⟩ : ∃ T, T0 ++ ⟨#[32]⟩ = T := ⟨_, rfl⟩
              have hts : T.size ≤ 1000 := by
                have h1 : (T0 ++ (⟨#[32]⟩ : ByteArray)).size = T0.size + 1 := by rw [ByteArray.size_append]; rfl
                rw [hT] at h1; omega
              have hTR : mkT (([] : List UInt8) ++ Lib.join (WS.take j) [32] ++ [32]) = T := by rw [← hT, ← hT0]; exact (mkT_append _ [32]).symm
              rw [hTR] at HC
              rw [hT0]
              clear hT0 hTR
              have hc0 : ¬ 9223372036854775807 < T.size + nk.size := by omega
              have hc1 : ¬ 9223372036854775807 < T.size + nk.size + 1 := by omega
              have hc2 : ¬ 9223372036854775807 < T.size + nk.size + 1 + na.size := by omega
              have hc3 : ¬ 9223372036854775807 < T.size + nk.size + 1 + na.size + 1 := by omega
              have hc4 : ¬ 9223372036854775807 < T.size + nk.size + 1 + na.size + 1 + nb.size := by omega
              clear hs hsm hnk hna hnb hk0 ha0 hb0
              go_wp2
              refine wp_region_W 14 16 (by kernel_rfl) (by kernel_rfl) (fun w' => w'.cell? ⟨wr.heap.size, 0, none⟩ = some (.int .i64 k) ∧ w'.cell? ⟨wr.heap.size, 1, none⟩ = some (.int .i64 a) ∧ w'.cell? ⟨wr.heap.size, 2, none⟩ = some (.int .i64 b)) ⟨cb, cb, cb⟩ (fun hHeld => ?_)
              refine tkp 0 hHeld ?_
              refine tkp 1 hHeld ?_
              refine tkl 2 hHeld ?_
              refine tkp 6 hHeld ?_
              refine tkl 7 hHeld ?_
              refine tkp 11 hHeld ?_
              refine tkl 12 hHeld ?_
              refine wpAnyW_one false (i := 3) (by kernel_rfl) rfl (by kernel_rfl) (by rfl) (fun KK hKK => ?_)
              refine st_list rfl ?_
              go_wp2_with fail
              refine (spec_l1NumA _ _ k hk.1 hk.2).mono ?_
              rw [HNk.out]
              rintro e1 w1 ⟨rfl, HP⟩
              have HS1 := HP.sep
              have HE1 := HP.ext
              clear HP
              go_wp2
              refine ⟨rfl, ?_⟩
              refine hKK.out _ _ (.inr ⟨cb, cb, cb⟩) (fun hHeld => ?_)
              clear hKK KK
              try simp only [Act.put, List.setIfInBounds_toArray, List.set_cons_zero, List.set_cons_succ]
              refine tkp 4 hHeld ?_
              refine tkp 5 hHeld ?_
              refine wpAnyW_one false (i := 8) (by kernel_rfl) rfl (by kernel_rfl) (by rfl) (fun KK hKK => ?_)
              refine st_list rfl ?_
              go_wp2_with fail
              refine (spec_l1NumA _ _ a ha.1 ha.2).mono ?_
              rw [HNa.out]
              rintro e2 w2 ⟨rfl, HP⟩
              have HS2 := HP.sep
              have HE2 := HP.ext
              clear HP
              go_wp2
              refine ⟨rfl, ?_⟩
              refine hKK.out _ _ (.inr ⟨cb, cb, cb⟩) (fun hHeld => ?_)
              clear hKK KK
              try simp only [Act.put, List.setIfInBounds_toArray, List.set_cons_zero, List.set_cons_succ]
              refine tkp 9 hHeld ?_
              refine tkp 10 hHeld ?_
              refine wpAnyW_one false (i := 13) (by kernel_rfl) rfl (by kernel_rfl) (by rfl) (fun KK hKK => ?_)
              refine st_list rfl ?_
              go_wp2_with fail
              refine (spec_l1NumA _ _ b hb.1 hb.2).mono ?_
              rw [HNb.out]
              rintro e3 w3 ⟨rfl, HP⟩
              have HS3 := HP.sep
              have HE3 := HP.ext
              clear HP
              go_wp2
              refine ⟨rfl, ?_⟩
              refine hKK.out _ _ (.inr ⟨cb, cb, cb⟩) (fun hHeld => ?_)
              clear hKK KK
              try simp only [Act.put, List.setIfInBounds_toArray, List.set_cons_zero, List.set_cons_succ]
              refine wpAnyW_done (by kernel_rfl) ?_
              go_wp2
              go_roundw
              case rel => exact ⟨j + 1, by omega, by go_num, by rw [← HC.out], inferInstance, Ent.sep (S := _) inferInstance inferInstance⟩
              case measure => (simp [intOf]; try omega)
          · have : j = m := by omega
            subst this
            go_wp2
            go_roundw
            case rel => exact ⟨f + 1, by omega, by go_num, by rw [List.take_of_length_le (by rw [HWL.out]; exact Nat.le_refl _), HWJ.out, HNX.out], inferInstance, inferInstance⟩
            case measure => (simp [intOf]; try omega)
      · have hf0i : (0 : Int) < (f : Int) := by omega
        have HBF : Hd ((Lib.join (TS.take f) [47] ++ [47]).length ≤ 823) := ⟨by rw [List.length_append, List.length_singleton]; omega⟩
        have HNX : Hd (mkT (Lib.join (TS.take f) [47] ++ [47] ++ bodyT l) = mkT (Lib.join (TS.take (f + 1)) [47])) := ⟨by rw [join_step TS 47 HXX.out, if_neg (by omega)]⟩
        obtain ⟨U, hU⟩ : ∃ U, Lib.join (TS.take f) [47] = U := ⟨_, rfl⟩
        rw [hU] at HBF HNX hj822 ⊢
        have hus : (mkT U).size ≤ 822 := by rw [mkT_size]; exact hj822
        have hcat : mkT U ++ ⟨#[47]⟩ = mkT (U ++ [47]) := mkT_append U [47]
        clear hU
        go_wp2
        go_loopw [3, 5] (fun v3 v5 wq => ∃ j : Nat, j ≤ m ∧ v5 = .int .i64 j ∧ v3 = .string (mkT ((U ++ [47]) ++ Lib.join (WS.take j) [32])) ∧ ExtI w wq ∧ SepI wq (pts w.heap.size (.cells #[.slice (some ⟨bo, off, none⟩) n c] 48 (0, 0)) * S)) (fun _ v _ => m - (intOf v).toNat)
        case atStart => exact ⟨0, Nat.zero_le _, rfl, by rw [List.take_zero, Lib.join_nil, List.append_nil], inferInstance, inferInstance⟩
        case round =>
          obtain ⟨j, hj, rfl, rfl, HX2, HS2⟩ := hrel
          by_cases hlt2 : j < m
          · rcases Nat.eq_zero_or_pos j with hj0 | hj0
            · subst hj0
              obtain ⟨⟨k, a, b⟩, hs⟩ := get_ex (xs := l) (k := 0) (by rw [← HM.out]; exact hlt2)
              obtain ⟨bp, op, rfl⟩ := rx.addr H (j := 0 * 3) (by rw [cSts_len, ← HM.out]; omega)
              have d1 := rx.cell (cSts_get hs).1
              have d2 := rx.cell (cSts_get hs).2.1
              have d3 := rx.cell (cSts_get hs).2.2
              have hsm := HSS.out _ (List.mem_of_getElem? hs)
              obtain ⟨hk0, ha0, hb0⟩ := hsm.1
              simp only at hk0 ha0 hb0 d1 d2 d3
              have HJN : Hd ((U ++ [47]) ++ Lib.join (WS.take (0 + 1)) [32] = (U ++ [47]) ++ stT ⟨k, a, b⟩) := ⟨by rw [join_step WS 32 (HWS.out 0 _ hs)]; rw [if_pos rfl]⟩
              have HC : Hd (mkT (U ++ [47]) ++ numB k ++ ⟨#[46]⟩ ++ numB a ++ ⟨#[46]⟩ ++ numB b = mkT ((U ++ [47]) ++ Lib.join (WS.take (0 + 1)) [32])) := ⟨by rw [HJN.out]; exact st_cat2 _ ⟨k, a, b⟩⟩
              have sk := numB_size hk0.1 hk0.2
              have sa := numB_size ha0.1 ha0.2
              have sb := numB_size hb0.1 hb0.2
              obtain ⟨nk, hnk⟩ : ∃ nk, numB k = nk := ⟨_, rfl⟩
              obtain ⟨na, hna⟩ : ∃ na, numB a = na := ⟨_, rfl⟩
              obtain ⟨nb, hnb⟩ : ∃ nb, numB b = nb := ⟨_, rfl⟩
              have HNk := Hd.mk hnk
              have HNa := Hd.mk hna
              have HNb := Hd.mk hnb
              rw [hnk, hna, hnb] at HC
              rw [hnk] at sk
              rw [hna] at sa
              rw [hnb] at sb
              have hk : -9223372036854775807 < k ∧ k < 9223372036854775807 := by omega
              have ha : -9223372036854775807 < a ∧ a < 9223372036854775807 := by omega
              have hb : -9223372036854775807 < b ∧ b < 9223372036854775807 := by omega
              obtain ⟨T, hT⟩ : ∃ T, mkT (U ++ [47]) = T := ⟨_, rfl⟩
              have hts : T.size ≤ 823 := by rw [← hT, mkT_size]; exact HBF.out
              have hv3 : mkT ((U ++ [47]) ++ Lib.join (WS.take 0) [32]) = T := by rw [← hT, List.take_zero, Lib.join_nil, List.append_nil]
              rw [hT] at HC
              rw [hv3]
              clear hv3 hT
              have hc0 : ¬ 9223372036854775807 < T.size + nk.size := by omega
              have hc1 : ¬ 9223372036854775807 < T.size + nk.size + 1 := by omega
              have hc2 : ¬ 9223372036854775807 < T.size + nk.size + 1 + na.size := by omega
              have hc3 : ¬ 9223372036854775807 < T.size + nk.size + 1 + na.size + 1 := by omega
              have hc4 : ¬ 9223372036854775807 < T.size + nk.size + 1 + na.size + 1 + nb.size := by omega
              clear hs hsm hnk hna hnb hk0 ha0 hb0
              go_wp2
              refine wp_region_W 14 16 (by kernel_rfl) (by kernel_rfl) (fun w' => w'.cell? ⟨wr.heap.size, 0, none⟩ = some (.int .i64 k) ∧ w'.cell? ⟨wr.heap.size, 1, none⟩ = some (.int .i64 a) ∧ w'.cell? ⟨wr.heap.size, 2, none⟩ = some (.int .i64 b)) ⟨cb, cb, cb⟩ (fun hHeld => ?_)
              refine tkp 0 hHeld ?_
              refine tkp 1 hHeld ?_
              refine tkl 2 hHeld ?_
              refine tkp 6 hHeld ?_
              refine tkl 7 hHeld ?_
              refine tkp 11 hHeld ?_
              refine tkl 12 hHeld ?_
              refine wpAnyW_one false (i := 3) (by kernel_rfl) rfl (by kernel_rfl) (by rfl) (fun KK hKK => ?_)
              refine st_list rfl ?_
              go_wp2_with fail
              refine (spec_l1NumA _ _ k hk.1 hk.2).mono ?_
              rw [HNk.out]
              rintro e1 w1 ⟨rfl, HP⟩
              have HS1 := HP.sep
              have HE1 := HP.ext
              clear HP
              go_wp2
              refine ⟨rfl, ?_⟩
              refine hKK.out _ _ (.inr ⟨cb, cb, cb⟩) (fun hHeld => ?_)
              clear hKK KK
              try simp only [Act.put, List.setIfInBounds_toArray, List.set_cons_zero, List.set_cons_succ]
              refine tkp 4 hHeld ?_
              refine tkp 5 hHeld ?_
              refine wpAnyW_one false (i := 8) (by kernel_rfl) rfl (by kernel_rfl) (by rfl) (fun KK hKK => ?_)
              refine st_list rfl ?_
              go_wp2_with fail
              refine (spec_l1NumA _ _ a ha.1 ha.2).mono ?_
              rw [HNa.out]
              rintro e2 w2 ⟨rfl, HP⟩
              have HS2 := HP.sep
              have HE2 := HP.ext
              clear HP
              go_wp2
              refine ⟨rfl, ?_⟩
              refine hKK.out _ _ (.inr ⟨cb, cb, cb⟩) (fun hHeld => ?_)
              clear hKK KK
              try simp only [Act.put, List.setIfInBounds_toArray, List.set_cons_zero, List.set_cons_succ]
              refine tkp 9 hHeld ?_
              refine tkp 10 hHeld ?_
              refine wpAnyW_one false (i := 13) (by kernel_rfl) rfl (by kernel_rfl) (by rfl) (fun KK hKK => ?_)
              refine st_list rfl ?_
              go_wp2_with fail
              refine (spec_l1NumA _ _ b hb.1 hb.2).mono ?_
              rw [HNb.out]
              rintro e3 w3 ⟨rfl, HP⟩
              have HS3 := HP.sep
              have HE3 := HP.ext
              clear HP
              go_wp2
              refine ⟨rfl, ?_⟩
              refine hKK.out _ _ (.inr ⟨cb, cb, cb⟩) (fun hHeld => ?_)
              clear hKK KK
              try simp only [Act.put, List.setIfInBounds_toArray, List.set_cons_zero, List.set_cons_succ]
              refine wpAnyW_done (by kernel_rfl) ?_
              go_wp2
              go_roundw
              case rel => exact ⟨0 + 1, by omega, by go_num, by rw [← HC.out], inferInstance, Ent.sep (S := _) inferInstance inferInstance⟩
              case measure => (simp [intOf]; try omega)
            · have hj0i : (0 : Int) < (j : Int) := by omega
              obtain ⟨⟨k, a, b⟩, hs⟩ := get_ex (xs := l) (k := j) (by rw [← HM.out]; exact hlt2)
              obtain ⟨bp, op, rfl⟩ := rx.addr H (j := j * 3) (by rw [cSts_len, ← HM.out]; omega)
              have d1 := rx.cell (cSts_get hs).1
              have d2 := rx.cell (cSts_get hs).2.1
              have d3 := rx.cell (cSts_get hs).2.2
              have hsm := HSS.out _ (List.mem_of_getElem? hs)
              obtain ⟨hk0, ha0, hb0⟩ := hsm.1
              simp only at hk0 ha0 hb0 d1 d2 d3
              have HJN : Hd ((U ++ [47]) ++ Lib.join (WS.take (j + 1)) [32] = ((U ++ [47]) ++ Lib.join (WS.take j) [32] ++ [32]) ++ stT ⟨k, a, b⟩) := ⟨by rw [join_step WS 32 (HWS.out j _ hs)]; rw [if_neg (by omega)]; simp only [List.append_assoc]⟩
              have HC : Hd (mkT ((U ++ [47]) ++ Lib.join (WS.take j) [32] ++ [32]) ++ numB k ++ ⟨#[46]⟩ ++ numB a ++ ⟨#[46]⟩ ++ numB b = mkT ((U ++ [47]) ++ Lib.join (WS.take (j + 1)) [32])) := ⟨by rw [HJN.out]; exact st_cat2 _ ⟨k, a, b⟩⟩
              have sk := numB_size hk0.1 hk0.2
              have sa := numB_size ha0.1 ha0.2
              have sb := numB_size hb0.1 hb0.2
              obtain ⟨nk, hnk⟩ : ∃ nk, numB k = nk := ⟨_, rfl⟩
              obtain ⟨na, hna⟩ : ∃ na, numB a = na := ⟨_, rfl⟩
              obtain ⟨nb, hnb⟩ : ∃ nb, numB b = nb := ⟨_, rfl⟩
              have HNk := Hd.mk hnk
              have HNa := Hd.mk hna
              have HNb := Hd.mk hnb
              rw [hnk, hna, hnb] at HC
              rw [hnk] at sk
              rw [hna] at sa
              rw [hnb] at sb
              have hk : -9223372036854775807 < k ∧ k < 9223372036854775807 := by omega
              have ha : -9223372036854775807 < a ∧ a < 9223372036854775807 := by omega
              have hb : -9223372036854775807 < b ∧ b < 9223372036854775807 := by omega
              obtain ⟨T0, hT0⟩ : ∃ T0, mkT ((U ++ [47]) ++ Lib.join (WS.take j) [32]) = T0 := ⟨_, rfl⟩
              have hts0 : T0.size ≤ 823 + 136 := by
                have h1 := HWB.out j
                have h2 := HBF.out
                rw [← hT0, mkT_size, List.length_append]; omega
              obtain ⟨T, hT⟩ : ∃ T, T0 ++ ⟨#[32]⟩ = T := ⟨_, rfl⟩
              have hts : T.size ≤ 1000 := by
                have h1 : (T0 ++ (⟨#[32]⟩ : ByteArray)).size = T0.size + 1 := by rw [ByteArray.size_append]; rfl
                rw [hT] at h1; omega
              have hTR : mkT ((U ++ [47]) ++ Lib.join (WS.take j) [32] ++ [32]) = T := by rw [← hT, ← hT0]; exact (mkT_append _ [32]).symm
              rw [hTR] at HC
              rw [hT0]
              clear hT0 hTR
              have hc0 : ¬ 9223372036854775807 < T.size + nk.size := by omega
              have hc1 : ¬ 9223372036854775807 < T.size + nk.size + 1 := by omega
              have hc2 : ¬ 9223372036854775807 < T.size + nk.size + 1 + na.size := by omega
              have hc3 : ¬ 9223372036854775807 < T.size + nk.size + 1 + na.size + 1 := by omega
              have hc4 : ¬ 9223372036854775807 < T.size + nk.size + 1 + na.size + 1 + nb.size := by omega
              clear hs hsm hnk hna hnb hk0 ha0 hb0
              go_wp2
              refine wp_region_W 14 16 (by kernel_rfl) (by kernel_rfl) (fun w' => w'.cell? ⟨wr.heap.size, 0, none⟩ = some (.int .i64 k) ∧ w'.cell? ⟨wr.heap.size, 1, none⟩ = some (.int .i64 a) ∧ w'.cell? ⟨wr.heap.size, 2, none⟩ = some (.int .i64 b)) ⟨cb, cb, cb⟩ (fun hHeld => ?_)
              refine tkp 0 hHeld ?_
              refine tkp 1 hHeld ?_
              refine tkl 2 hHeld ?_
              refine tkp 6 hHeld ?_
              refine tkl 7 hHeld ?_
              refine tkp 11 hHeld ?_
              refine tkl 12 hHeld ?_
              refine wpAnyW_one false (i := 3) (by kernel_rfl) rfl (by kernel_rfl) (by rfl) (fun KK hKK => ?_)
              refine st_list rfl ?_
              go_wp2_with fail
              refine (spec_l1NumA _ _ k hk.1 hk.2).mono ?_
              rw [HNk.out]
              rintro e1 w1 ⟨rfl, HP⟩
              have HS1 := HP.sep
              have HE1 := HP.ext
              clear HP
              go_wp2
              refine ⟨rfl, ?_⟩
              refine hKK.out _ _ (.inr ⟨cb, cb, cb⟩) (fun hHeld => ?_)
              clear hKK KK
              try simp only [Act.put, List.setIfInBounds_toArray, List.set_cons_zero, List.set_cons_succ]
              refine tkp 4 hHeld ?_
              refine tkp 5 hHeld ?_
              refine wpAnyW_one false (i := 8) (by kernel_rfl) rfl (by kernel_rfl) (by rfl) (fun KK hKK => ?_)
              refine st_list rfl ?_
              go_wp2_with fail
              refine (spec_l1NumA _ _ a ha.1 ha.2).mono ?_
              rw [HNa.out]
              rintro e2 w2 ⟨rfl, HP⟩
              have HS2 := HP.sep
              have HE2 := HP.ext
              clear HP
              go_wp2
              refine ⟨rfl, ?_⟩
              refine hKK.out _ _ (.inr ⟨cb, cb, cb⟩) (fun hHeld => ?_)
              clear hKK KK
              try simp only [Act.put, List.setIfInBounds_toArray, List.set_cons_zero, List.set_cons_succ]
              refine tkp 9 hHeld ?_
              refine tkp 10 hHeld ?_
              refine wpAnyW_one false (i := 13) (by kernel_rfl) rfl (by kernel_rfl) (by rfl) (fun KK hKK => ?_)
              refine st_list rfl ?_
              go_wp2_with fail
              refine (spec_l1NumA _ _ b hb.1 hb.2).mono ?_
              rw [HNb.out]
              rintro e3 w3 ⟨rfl, HP⟩
              have HS3 := HP.sep
              have HE3 := HP.ext
              clear HP
              go_wp2
              refine ⟨rfl, ?_⟩
              refine hKK.out _ _ (.inr ⟨cb, cb, cb⟩) (fun hHeld => ?_)
              clear hKK KK
              try simp only [Act.put, List.setIfInBounds_toArray, List.set_cons_zero, List.set_cons_succ]
              refine wpAnyW_done (by kernel_rfl) ?_
              go_wp2
              go_roundw
              case rel => exact ⟨j + 1, by omega, by go_num, by rw [← HC.out], inferInstance, Ent.sep (S := _) inferInstance inferInstance⟩
              case measure => (simp [intOf]; try omega)
          · have : j = m := by omega
            subst this
            go_wp2
            go_roundw
            case rel => exact ⟨f + 1, by omega, by go_num, by rw [List.take_of_length_le (by rw [HWL.out]; exact Nat.le_refl _), HWJ.out, HNX.out], inferInstance, inferInstance⟩
            case measure => (simp [intOf]; try omega)
    · have : f = n := by omega
      subst this
      rw [List.take_of_length_le (by rw [HTL.out]; exact Nat.le_refl _), ← HTP.out]
      go_wp2
      go_ret
      exact ⟨rfl, Post.mk' (Ent.sep (S := _) inferInstance inferInstance) inferInstance⟩
end Go.Proofs.YtnioipbofopocaaDoor
