/- Programs out of texts, by the program. Conditions: the tables, the sentinels and the cell of the greatest length read as they are laid. -/
import Derived.Test.YtnioipbofopocaaDoorUd
import Derived.Test.YtnioipbofopocaaDoorLw
namespace Go.Proofs.YtnioipbofopocaaDoor
open Go.RowKit SL
attribute [local go_sem] cell_blk frozen_blk lt_blk cell_at frozen_row lt_row
set_option linter.unusedVariables false
set_option linter.unusedSimpArgs false

theorem own_nil {w : World} {S : HP} (H : SepI w S) : SepI w (OwnP (.slice none 0 0) [] * S) := by
  have h := SL.Row.nil0 (SepI.emp H) 76 1
  rw [← star_assoc] at h
  exact h
theorem own_open {v : Value} {bs : List Bd} {i : Nat} (h : bs.length = i) (F : HP) : OwnP v bs * F = Row 76 1 v i (cBds bs) * (stars (bs.map OwnB) * F) := by
  subst h
  unfold OwnP
  rw [star_assoc]
theorem bds_next (bs : List Bd) (A : Option Addr) (c j : Nat) (l : List St) (h : l.length = j) : cBds bs ++ #[Value.slice A j c].toList = cBds (bs ++ [(⟨A, c, l⟩ : Bd)]) := by
  rw [cBds_append]
  subst h
  rfl
theorem sts_next (l : List St) (x : St) : cSts l ++ #[Value.int .i64 x.k, .int .i64 x.a, .int .i64 x.b].toList = cSts (l ++ [x]) := by rw [cSts_append]; rfl
theorem stars_next (bs : List Bd) (A : Option Addr) (c j : Nat) (l : List St) (h : l.length = j) (F : HP) : stars ((bs ++ [(⟨A, c, l⟩ : Bd)]).map OwnB) * F = Row 78 3 (.slice A j c) j (cSts l) * (stars (bs.map OwnB) * F) := by
  rw [List.map_append, List.map_cons, List.map_nil, stars_snoc, star_assoc]
  subst h
  rfl
theorem start_own {w : World} {A B C D : HP} (H : SepI w (A * (B * (C * D)))) : SepI w (Row 76 1 (.slice none 0 0) 0 (cBds []) * (stars (([] : List Bd).map OwnB) * (B * (C * (A * D))))) := by
  have h2 : A * (B * (C * D)) = B * (C * (A * D)) := by rw [star_left A B, star_left A C]
  rw [h2] at H
  exact SL.Row.nil0 (SepI.emp H) 76 1
def ProgOk (S : HP) (a : List (List St) × Bool) (w : World) (e : Ending) (w' : World) : Prop := ∃ (A : Option Addr) (c : Nat) (bs : List Bd), e = .returned (.tuple #[.agg #[.slice A bs.length c], .bool a.2]) ∧ Hd (bs.map (·.l) = a.1) ∧ Post w (OwnP (.slice A bs.length c) bs * S) w'
theorem map_snoc {bs : List Bd} {A : Option Addr} {c : Nat} {l : List St} : (bs ++ [(⟨A, c, l⟩ : Bd)]).map (·.l) = bs.map (·.l) ++ [l] := by simp
set_option maxRecDepth 100000 in
set_option maxHeartbeats 4000000 in
theorem impl_ParseProgram (S : HP) (w : World) [H : SepI w S] [t : TabI S] [x : ErrI S] [n : LenI S] (s : ByteArray) (hs : s.size ≤ 1048576) :
    Calls Tryd.prog 30 #[.string s] w (ProgOk S (ans_Prog s) w) := by
  have hnot : ∀ (x : Bool) (w : World), (Op.unary .not (.bool x)).run Tryd.prog w = .ok (.bool (!x)) w := fun _ _ => rfl
  by_cases hb : s.size ≤ 4000
  · have hbi : ¬ (4000 : Int) < (s.size : Int) := by omega
    obtain ⟨L, hL⟩ : ∃ L, splT s 47 = L := ⟨_, rfl⟩
    obtain ⟨m, hm⟩ : ∃ m, m = L.length := ⟨_, rfl⟩
    have hml : m ≤ 4001 := by have := parts_len s 47; rw [hL] at this; omega
    have HSP : Hd (∀ (S' : HP) (w' : World), SepI w' S' → LenI S' → Calls Tryd.prog 43 #[.string s, .string ⟨#[47]⟩] w' fun e w'' => ∃ g c, e = .returned (.slice (some ⟨g, 0, none⟩) m c) ∧ m ≤ c ∧ Post w' (Row 9 1 (.slice (some ⟨g, 0, none⟩) m c) m (strs L) * S') w'') := ⟨fun S' w' h1 h2 => by
      have h := split_post S' w' s 47 (by omega)
      rw [hL] at h
      unfold StrsP at h
      rw [← hm] at h
      exact h⟩
    have HM := Hd.mk hm
    have HSZ : Hd (∀ (k : Nat) (p : ByteArray), L[k]? = some p → p.size ≤ 4000) := ⟨fun k p h => by
      have := part_size (s := s) (b := 47) (x := p) (by rw [hL]; exact List.mem_of_getElem? h)
      omega⟩
    have HMS : Hd (∀ (k : Nat) (p : ByteArray), L[k]? = some p → readBd p = none → ans_Prog s = ([], false)) := ⟨fun k p h h2 => ans_Prog_none (by unfold readPg; rw [hL]; exact allM_miss h h2)⟩
    have HAB : Hd (∀ Q, allM readBd L = some Q → progB Q = false → ans_Prog s = ([], false)) := ⟨fun Q h h2 => ans_Prog_bad (by unfold readPg; rw [hL]; exact h) h2⟩
    have HAY : Hd (∀ Q, allM readBd L = some Q → progB Q = true → ans_Prog s = (Q, true)) := ⟨fun Q h h2 => ans_Prog_yes (by unfold readPg; rw [hL]; exact h) h2⟩
    obtain ⟨A, hA⟩ : ∃ A, ans_Prog s = A := ⟨_, rfl⟩
    rw [hA]
    have HA := Hd.mk hA
    clear hL hm hA hb
    go_enter Tryd.func30, Tryd.ntmps30
    go_wp2_with fail
    refine (HSP.out _ _ inferInstance inferInstance).mono ?_
    rintro e w1 ⟨gL, cL, rfl, hcL, HP⟩
    have HS1 := HP.sep
    have HE1 := HP.ext
    clear HP
    go_wp2
    go_loopw [20] (fun v20 wr => ∃ (i : Nat) (vv : Value) (bs : List Bd), i ≤ m ∧ v20 = .int .i64 i ∧ Hd (bs.length = i) ∧ Hd (allM readBd (L.take i) = some (bs.map (·.l))) ∧ Hd (∀ x ∈ bs, x.l.length ≤ 1048576) ∧ ExtI w wr ∧ SepI wr (Row 76 1 vv i (cBds bs) * (stars (bs.map OwnB) * (pts (w.heap.size + 1) (.cells #[vv] 48 (0, 0)) * (pts w.heap.size (.cells #[.slice none 0 0] 48 (0, 0)) * (Row 9 1 (.slice (some ⟨gL, 0, none⟩) m cL) m (strs L) * S)))))) (fun v _ => m - (intOf v).toNat)
    case atStart => exact ⟨0, .slice none 0 0, [], Nat.zero_le _, rfl, ⟨rfl⟩, ⟨rfl⟩, ⟨fun x hx => by cases hx⟩, inferInstance, by exact start_own HS1⟩
    case round =>
      obtain ⟨i, vv, bs, hi, rfl, HVL, HAV, HSM, HX, HS⟩ := hrel
      obtain ⟨A4, c4, rfl, hc40, hc41⟩ := Row.form HS
      by_cases hlt : i < m
      · obtain ⟨p, hp⟩ := get_ex (xs := L) (k := i) (by rw [← HM.out]; exact hlt)
        have d0 : ∀ F, CellAt (Row 9 1 (.slice (some ⟨gL, 0, none⟩) m cL) m (strs L) * F) gL i (.string p) := fun F => Row.cellAt (strs_get hp)
        have hps := HSZ.out i p hp
        have HPP := Hd.mk hp
        clear hp
        by_cases hz : p.size = 0
        · obtain rfl := size_zero hz
          have HRB : Hd (readBd (ByteArray.mk #[]) = some []) := ⟨readBd_nil hz⟩
          have HSE : Hd (∀ (S' : HP) (w' : World), SepI w' S' → LenI S' → Calls Tryd.prog 43 #[.string ⟨#[]⟩, .string ⟨#[32]⟩] w' fun e w'' => ∃ g c, e = .returned (.slice (some ⟨g, 0, none⟩) 1 c) ∧ 1 ≤ c ∧ Post w' (Row 9 1 (.slice (some ⟨g, 0, none⟩) 1 c) 1 (strs [ByteArray.mk #[]]) * S') w'') := ⟨fun S' w' h1 h2 => split_post S' w' ⟨#[]⟩ 32 (by omega)⟩
          clear hz
          go_wp2_with fail
          refine (HSE.out _ _ inferInstance inferInstance).mono ?_
          rintro e w2 ⟨gW, cW, rfl, hcW, HP⟩
          have HS2 := HP.sep
          have HE2 := HP.ext
          clear HP
          have d2 : ∀ F, CellAt (Row 9 1 (.slice (some ⟨gW, 0, none⟩) 1 cW) 1 (strs [ByteArray.mk #[]]) * F) gW 0 (.string ⟨#[]⟩) := fun F => Row.cellAt rfl
          go_wp2
          go_loopw [7, 28] (fun v7 v28 wq => ∃ (ww : Value), v28 = .int .i64 0 ∧ v7 = ww ∧ ExtI w wq ∧ SepI wq (Row 78 3 ww 0 (cSts []) * (Row 9 1 (.slice (some ⟨gW, 0, none⟩) 1 cW) 1 (strs [ByteArray.mk #[]]) * (Row 76 1 (.slice A4 i c4) i (cBds bs) * (stars (bs.map OwnB) * (pts (w.heap.size + 1) (.cells #[(.slice A4 i c4)] 48 (0, 0)) * (pts w.heap.size (.cells #[.slice none 0 0] 48 (0, 0)) * (Row 9 1 (.slice (some ⟨gL, 0, none⟩) m cL) m (strs L) * S)))))))) (fun _ v _ => 0)
          case atStart => exact ⟨.slice (some ⟨wr.heap.size, 0, none⟩) 0 0, rfl, rfl, inferInstance, by exact Row.alone HS2⟩
          case round =>
            obtain ⟨ww, rfl, rfl, HX2, HS3⟩ := hrel
            obtain ⟨A7, c7, rfl, hc70, hc71⟩ := Row.form HS3
            obtain ⟨l, hl⟩ : ∃ l : List St, [] = l := ⟨_, rfl⟩
            have HLL : Hd (l.length = 0) := ⟨by rw [← hl]; rfl⟩
            rw [hl] at HS3 HRB
            clear hl
            have HNX : Hd (allM readBd (L.take (i + 1)) = some ((bs ++ [(⟨A7, c7, l⟩ : Bd)]).map (·.l))) := ⟨by rw [map_snoc]; exact allM_next HPP.out HAV.out HRB.out⟩
            have HBS : Hd (∀ x ∈ (bs ++ [(⟨A7, c7, l⟩ : Bd)]), x.l.length ≤ 1048576) := ⟨fun x hx => by
              rcases List.mem_append.1 hx with hx | hx
              · exact HSM.out x hx
              · rw [List.mem_singleton.1 hx]
                show l.length ≤ 1048576
                rw [HLL.out]; omega⟩
            go_wp2_with (at_builtin; go_must (refine ev_append (v := .slice A4 i c4) rfl _ _ 46 rfl rfl 24 _ Tryd.underlying46 info_body rfl (by decide) (by decide) (wr.heap.size) 1 1 rfl rfl (by simp [Value.oneCell']) (by omega) ?_); intro v9 w9 HS9 HE9; replace HS9 := Row.asS HS9 rfl (bds_next bs A7 c7 0 l HLL.out); obtain ⟨A9, c9, rfl, hc90, hc91⟩ := Row.form HS9)
            go_roundw
            case rel => exact ⟨i + 1, .slice A9 (i + 1) c9, bs ++ [⟨A7, c7, l⟩], by omega, by go_num, ⟨by rw [List.length_append, HVL.out]; rfl⟩, HNX, HBS, inferInstance, by rw [stars_next bs A7 c7 0 l HLL.out]; have hq : SepI (w9.setCell ⟨w.heap.size + 1, 0, none⟩ (.slice A9 (i + 1) c9)) _ := inferInstance; refine Ent.sep (T := Row 76 1 (.slice A9 (i + 1) c9) (i + 1) (cBds (bs ++ [⟨A7, c7, l⟩])) * (Row 78 3 (.slice A7 0 c7) 0 (cSts l) * (stars (bs.map OwnB) * (pts (w.heap.size + 1) (.cells (#[Value.slice A4 i c4].setIfInBounds 0 (.slice A9 (i + 1) c9)) 48 (0, 0)) * (pts w.heap.size (.cells #[.slice none 0 0] 48 (0, 0)) * (Row 9 1 (.slice (some ⟨gL, 0, none⟩) m cL) m (strs L) * S)))))) ?_ hq; infer_instance⟩
            case measure => (simp [intOf]; try omega)
        · have HRS := Hd.mk (readBd_some hz)
          obtain ⟨W, hW⟩ : ∃ W, splT p 32 = W := ⟨_, rfl⟩
          rw [hW] at HRS
          obtain ⟨k, hk⟩ : ∃ k, k = W.length := ⟨_, rfl⟩
          have hkl : k ≤ 4001 := by have := parts_len p 32; rw [hW] at this; omega
          have HSE : Hd (∀ (S' : HP) (w' : World), SepI w' S' → LenI S' → Calls Tryd.prog 43 #[.string p, .string ⟨#[32]⟩] w' fun e w'' => ∃ g c, e = .returned (.slice (some ⟨g, 0, none⟩) k c) ∧ k ≤ c ∧ Post w' (Row 9 1 (.slice (some ⟨g, 0, none⟩) k c) k (strs W) * S') w'') := ⟨fun S' w' h1 h2 => by
            have h := split_post S' w' p 32 (by omega)
            rw [hW] at h
            unfold StrsP at h
            rw [← hk] at h
            exact h⟩
          have HK := Hd.mk hk
          have HWZ : Hd (∀ (j : Nat) (q : ByteArray), W[j]? = some q → q.size ≤ 4000) := ⟨fun j q h => by
            have := part_size (s := p) (b := 32) (x := q) (by rw [hW]; exact List.mem_of_getElem? h)
            omega⟩
          have hne : (p.toList == (ByteArray.mk #[]).toList) = false := ne_list (fun h => hz (by rw [h]; rfl))
          have hnn : p.toList ≠ [] := by
            rw [ByteArray.toList_eq]
            intro h
            have := congrArg List.length h
            rw [data_len] at this
            exact hz this
          have hie : p.toList.isEmpty = false := by
            cases h : p.toList with
            | nil => exact absurd h hnn
            | cons a b => rfl
          clear hW hk hz
          go_wp2_with fail
          refine (HSE.out _ _ inferInstance inferInstance).mono ?_
          rintro e w2 ⟨gW, cW, rfl, hcW, HP⟩
          have HS2 := HP.sep
          have HE2 := HP.ext
          clear HP
          go_wp2
          go_loopw [7, 28] (fun v7 v28 wq => ∃ (j : Nat) (ww : Value) (l : List St), j ≤ k ∧ v28 = .int .i64 j ∧ v7 = ww ∧ Hd (l.length = j) ∧ Hd (allM readSt (W.take j) = some l) ∧ ExtI w wq ∧ SepI wq (Row 78 3 ww j (cSts l) * (Row 9 1 (.slice (some ⟨gW, 0, none⟩) k cW) k (strs W) * (Row 76 1 (.slice A4 i c4) i (cBds bs) * (stars (bs.map OwnB) * (pts (w.heap.size + 1) (.cells #[(.slice A4 i c4)] 48 (0, 0)) * (pts w.heap.size (.cells #[.slice none 0 0] 48 (0, 0)) * (Row 9 1 (.slice (some ⟨gL, 0, none⟩) m cL) m (strs L) * S)))))))) (fun _ v _ => k - (intOf v).toNat)
          case atStart => exact ⟨0, .slice (some ⟨wr.heap.size, 0, none⟩) 0 0, [], Nat.zero_le _, rfl, rfl, ⟨rfl⟩, ⟨rfl⟩, inferInstance, by exact Row.alone HS2⟩
          case round =>
            obtain ⟨j, ww, l, hj, rfl, rfl, HLL, HAL, HX2, HS3⟩ := hrel
            obtain ⟨A7, c7, rfl, hc70, hc71⟩ := Row.form HS3
            by_cases hlt2 : j < k
            · obtain ⟨q, hq⟩ := get_ex (xs := W) (k := j) (by rw [← HK.out]; exact hlt2)
              have d2 : ∀ F, CellAt (Row 9 1 (.slice (some ⟨gW, 0, none⟩) k cW) k (strs W) * F) gW j (.string q) := fun F => Row.cellAt (strs_get hq)
              have hqs := HWZ.out j q hq
              have HQQ := Hd.mk hq
              clear hq
              cases hrq : readSt q with
              | none =>
                have HZ := HMS.out i p HPP.out (by rw [HRS.out]; exact allM_miss HQQ.out hrq)
                rw [HA.out] at HZ
                have HZ2 := Hd.mk HZ
                have HST := Hd.mk (stA_no hrq)
                clear HZ hrq
                go_wp2_with fail
                refine (impl_parseStep _ _ q hqs).mono ?_
                rw [HST.out]
                rintro e w5 ⟨rfl, HP⟩
                have HS5 := HP.sep
                have HE5 := HP.ext
                clear HP
                go_wp2
                refine bodyPost_ret (v := .tuple #[.agg #[.slice none 0 0], .bool false]) (by simp [results, Tryd.results30, go_sem]) rfl ?_
                rw [HZ2.out]
                exact ⟨none, 0, [], rfl, ⟨rfl⟩, Post.mk' (own_nil (Ent.sep (S := _) (T := S) inferInstance inferInstance)) inferInstance⟩
              | some x =>
                have HST := Hd.mk (stA_yes hrq)
                have HNW : Hd (allM readSt (W.take (j + 1)) = some (l ++ [x])) := ⟨allM_next HQQ.out HAL.out hrq⟩
                have HSN := Hd.mk (sts_next l x)
                obtain ⟨xk, xa, xb⟩ := x
                clear hrq
                go_wp2_with fail
                refine (impl_parseStep _ _ q hqs).mono ?_
                rw [HST.out]
                rintro e w5 ⟨rfl, HP⟩
                have HS5 := HP.sep
                have HE5 := HP.ext
                clear HP
                go_wp2_with (at_builtin; go_must (refine ev_append (v := .slice A7 j c7) rfl _ _ 76 rfl rfl 24 _ Tryd.underlying76 info_step rfl (by decide) (by decide) (w5.heap.size + 1) 1 1 rfl rfl (by simp [Value.oneCell']) (by omega) ?_); intro v8 w8 HS8 HE8; replace HS8 := Row.asS HS8 rfl HSN.out)
                go_roundw
                case rel => exact ⟨j + 1, v8, l ++ [⟨xk, xa, xb⟩], by omega, by go_num, rfl, ⟨by rw [List.length_append, HLL.out]; rfl⟩, HNW, inferInstance, Ent.sep (S := _) inferInstance HS8⟩
                case measure => (simp [intOf]; try omega)
            · have : j = k := by omega
              subst this
              have HRB : Hd (readBd p = some l) := ⟨by rw [HRS.out]; have := HAL.out; rwa [HK.out, List.take_length] at this⟩
              have HNX : Hd (allM readBd (L.take (i + 1)) = some ((bs ++ [(⟨A7, c7, l⟩ : Bd)]).map (·.l))) := ⟨by rw [map_snoc]; exact allM_next HPP.out HAV.out HRB.out⟩
              have HBS : Hd (∀ x ∈ (bs ++ [(⟨A7, c7, l⟩ : Bd)]), x.l.length ≤ 1048576) := ⟨fun x hx => by
                rcases List.mem_append.1 hx with hx | hx
                · exact HSM.out x hx
                · rw [List.mem_singleton.1 hx]
                  show l.length ≤ 1048576
                  rw [HLL.out]; omega⟩
              go_wp2_with (at_builtin; go_must (refine ev_append (v := .slice A4 i c4) rfl _ _ 46 rfl rfl 24 _ Tryd.underlying46 info_body rfl (by decide) (by decide) (wr.heap.size) 1 1 rfl rfl (by simp [Value.oneCell']) (by omega) ?_); intro v9 w9 HS9 HE9; replace HS9 := Row.asS HS9 rfl (bds_next bs A7 c7 j l HLL.out); obtain ⟨A9, c9, rfl, hc90, hc91⟩ := Row.form HS9)
              go_roundw
              case rel => exact ⟨i + 1, .slice A9 (i + 1) c9, bs ++ [⟨A7, c7, l⟩], by omega, by go_num, ⟨by rw [List.length_append, HVL.out]; rfl⟩, HNX, HBS, inferInstance, by rw [stars_next bs A7 c7 j l HLL.out]; have hq : SepI (w9.setCell ⟨w.heap.size + 1, 0, none⟩ (.slice A9 (i + 1) c9)) _ := inferInstance; refine Ent.sep (T := Row 76 1 (.slice A9 (i + 1) c9) (i + 1) (cBds (bs ++ [⟨A7, c7, l⟩])) * (Row 78 3 (.slice A7 j c7) j (cSts l) * (stars (bs.map OwnB) * (pts (w.heap.size + 1) (.cells (#[Value.slice A4 i c4].setIfInBounds 0 (.slice A9 (i + 1) c9)) 48 (0, 0)) * (pts w.heap.size (.cells #[.slice none 0 0] 48 (0, 0)) * (Row 9 1 (.slice (some ⟨gL, 0, none⟩) m cL) m (strs L) * S)))))) ?_ hq; infer_instance⟩
              case measure => (simp [intOf]; try omega)
      · have : i = m := by omega
        subst this
        have HAV2 : Hd (allM readBd L = some (bs.map (·.l))) := ⟨by have := HAV.out; rwa [HM.out, List.take_length] at this⟩
        rw [← own_open HVL.out] at HS
        have iB : ∀ F, Bodies (OwnP (.slice A4 i c4) bs * F) bs := fun F => Bodies.of_OwnP F HSM.out (by rw [HVL.out]; omega)
        obtain ⟨v, hv⟩ : ∃ v, progB (bs.map (·.l)) = v := ⟨_, rfl⟩
        have HIP : Hd (∀ (S' : HP) (w' : World), SepI w' S' → Rd S' A4 (cBds bs) → Bodies S' bs → Calls Tryd.prog 63 #[.agg #[.slice A4 i c4]] w' fun e w'' => e = .returned (.bool v) ∧ Post w' S' w'') := ⟨fun S' w' h1 h2 h3 => by
          have h := impl_IsProgram S' w' A4 c4 bs v hv
          rw [HVL.out] at h
          exact h⟩
        cases v
        · have HZ := HAB.out _ HAV2.out hv
          rw [HA.out] at HZ
          have HZ2 := Hd.mk HZ
          clear HZ hv
          go_wp2_with fail
          refine (HIP.out _ _ inferInstance inferInstance inferInstance).mono ?_
          rintro e w5 ⟨rfl, HP⟩
          have HS5 := HP.sep
          have HE5 := HP.ext
          clear HP
          go_wp2
          refine bodyPost_ret (v := .tuple #[.agg #[.slice none 0 0], .bool false]) (by simp [results, Tryd.results30, go_sem]) rfl ?_
          rw [HZ2.out]
          exact ⟨none, 0, [], rfl, ⟨rfl⟩, Post.mk' (own_nil (Ent.sep (S := _) (T := S) inferInstance inferInstance)) inferInstance⟩
        · have HZ := HAY.out _ HAV2.out hv
          rw [HA.out] at HZ
          have HZ2 := Hd.mk HZ
          clear HZ hv
          go_wp2_with fail
          refine (HIP.out _ _ inferInstance inferInstance inferInstance).mono ?_
          rintro e w5 ⟨rfl, HP⟩
          have HS5 := HP.sep
          have HE5 := HP.ext
          clear HP
          go_wp2
          refine bodyPost_ret (v := .tuple #[.agg #[.slice A4 i c4], .bool true]) (by simp [results, Tryd.results30, go_sem]) rfl ?_
          rw [HZ2.out]
          exact ⟨A4, c4, bs, by rw [HVL.out], ⟨rfl⟩, Post.mk' (by rw [HVL.out]; exact Ent.sep (S := _) inferInstance inferInstance) inferInstance⟩
  · have hbi : (4000 : Int) < (s.size : Int) := by omega
    have HA := Hd.mk (ans_Prog_long (s := s) (by omega))
    rw [HA.out]
    clear hb
    go_enter Tryd.func30, Tryd.ntmps30
    go_wp2
    refine bodyPost_ret (v := .tuple #[.agg #[.slice none 0 0], .bool false]) (by simp [results, Tryd.results30, go_sem]) rfl ?_
    exact ⟨none, 0, [], rfl, ⟨rfl⟩, Post.mk' (own_nil (Ent.sep (S := _) (T := S) inferInstance inferInstance)) inferInstance⟩
end Go.Proofs.YtnioipbofopocaaDoor
