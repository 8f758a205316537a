/- Steps out of texts, by the program and by the reference. Conditions: the tables, the sentinels and the cell of the greatest length read as they are laid. -/
import Derived.Test.YtnioipbofopocaaDoorUc
import Derived.Test.YtnioipbofopocaaDoorUb
import Derived.Test.YtnioipbofopocaaDoorTx
import Derived.Test.YtnioipbofopocaaDoorDu
import Derived.WalkSpells
namespace Go.Proofs.YtnioipbofopocaaDoor
open Go.RowKit SL
attribute [local go_sem] cell_blk frozen_blk lt_blk cell_at frozen_row lt_row
set_option linter.unusedVariables false
set_option linter.unusedSimpArgs false

instance (priority := low) LenI.there (X S : HP) [i : LenI S] : LenI (X * S) := ⟨fun w H => i.out w H.right⟩
theorem join_mem {L : List (List UInt8)} {x : List UInt8} (h : x ∈ L) (sep : List UInt8) : x.length ≤ (Lib.join L sep).length := by
  have key : ∀ r : List (List UInt8), x ∈ r → x.length ≤ (Lib.joinTail sep r).length := by
    intro r
    induction r with
    | nil => intro h; cases h
    | cons y r ih =>
      intro h
      have e : Lib.joinTail sep (y :: r) = sep ++ y ++ Lib.joinTail sep r := by simp [Lib.joinTail]
      rw [e, List.length_append, List.length_append]
      rcases List.mem_cons.1 h with rfl | h
      · omega
      · have := ih h; omega
  cases L with
  | nil => cases h
  | cons y l =>
    rw [Lib.join_cons, List.length_append]
    rcases List.mem_cons.1 h with rfl | h
    · omega
    · have := key l h; omega
theorem part_size {s x : ByteArray} {b : UInt8} (h : x ∈ splT s b) : x.size ≤ s.size := by
  obtain ⟨l, hl, rfl⟩ := List.mem_map.1 h
  have := join_mem hl [b]
  rw [join_split, data_len] at this
  rw [mkT_size]
  exact this
theorem parts_len (s : ByteArray) (b : UInt8) : (splT s b).length ≤ s.size + 1 := by
  have h := splF_len b s.data.toList s.size
  rw [← data_len, List.take_length, data_len] at h
  unfold splT splitL
  rw [List.length_map, List.length_append, List.length_singleton]
  omega
theorem parts_pos (s : ByteArray) (b : UInt8) : 1 ≤ (splT s b).length := by
  unfold splT splitL
  rw [List.length_map, List.length_append, List.length_singleton]
  omega
def readI (p : ByteArray) : Option Int := if (ans_Int p).2 = true then some (ans_Int p).1 else none
theorem readI_yes {p : ByteArray} {v : Int} (h : ans_Int p = (v, true)) : readI p = some v := by unfold readI; rw [h]; rfl
theorem readSt_len {s : ByteArray} (h : (splT s 46).length ≠ 3) : readSt s = none := by
  unfold readSt
  split
  · rename_i k a b e
    have := congrArg List.length e
    rw [List.length_map] at this
    exact absurd this h
  · rfl
theorem readSt_miss {s p : ByteArray} {i : Nat} {v : Int} (h : (splT s 46)[i]? = some p) (h2 : ans_Int p = (v, false)) : readSt s = none := by
  unfold readSt
  split
  · rename_i k a b e
    have h3 : ((splT s 46).map ans_Int)[i]? = some (v, false) := by rw [List.getElem?_map, h]; exact congrArg some h2
    rw [e] at h3
    match i, h3 with
    | 0, h3 => cases h3
    | 1, h3 => cases h3
    | 2, h3 => cases h3
    | i + 3, h3 => simp at h3
  · rfl
theorem readSt_three {s p q r : ByteArray} {k a b : Int} (h : splT s 46 = [p, q, r]) (h0 : ans_Int p = (k, true)) (h1 : ans_Int q = (a, true)) (h2 : ans_Int r = (b, true)) : readSt s = some ⟨k, a, b⟩ := by
  unfold readSt
  rw [h, List.map_cons, List.map_cons, List.map_cons, h0, h1, h2]
  rfl
theorem readI_of {p : ByteArray} {v : Int} (h : readI p = some v) : ans_Int p = (v, true) := by
  unfold readI at h
  split at h
  · rename_i h1
    injection h with h
    rw [← h, ← h1]
  · cases h
theorem allM_get {α β : Type} {f : α → Option β} : ∀ {l : List α} {ys : List β} {k : Nat} {y : β}, allM f l = some ys → ys[k]? = some y → ∃ x, l[k]? = some x ∧ f x = some y
  | [], ys, k, y, h, hy => by simp only [allM, Option.some.injEq] at h; subst h; simp at hy
  | x :: l, ys, k, y, h, hy => by
    simp only [allM] at h
    cases hx : f x with
    | none => rw [hx] at h; cases h
    | some z =>
      cases hl : allM f l with
      | none => rw [hx, hl] at h; cases h
      | some zs =>
        rw [hx, hl] at h
        simp at h
        subst h
        cases k with
        | zero => simp at hy; subst hy; exact ⟨x, rfl, hx⟩
        | succ k => simpa using allM_get hl (by simpa using hy)
theorem readSt_all {s : ByteArray} {vs : List Int} (h : allM readI (splT s 46) = some vs) (h3 : vs.length = 3) : ∃ k a b, vs = [k, a, b] ∧ readSt s = some ⟨k, a, b⟩ := by
  have hl := allM_len h
  match vs, h3, h with
  | [k, a, b], _, h =>
    obtain ⟨p, q, r, hsp⟩ : ∃ p q r, splT s 46 = [p, q, r] := by
      generalize splT s 46 = L at hl
      match L, hl with
      | [p, q, r], _ => exact ⟨p, q, r, rfl⟩
    rw [hsp] at h
    obtain ⟨x0, e0, f0⟩ := allM_get h (k := 0) (y := k) rfl
    obtain ⟨x1, e1, f1⟩ := allM_get h (k := 1) (y := a) rfl
    obtain ⟨x2, e2, f2⟩ := allM_get h (k := 2) (y := b) rfl
    simp at e0 e1 e2
    subst e0 e1 e2
    exact ⟨k, a, b, rfl, readSt_three hsp (readI_of f0) (readI_of f1) (readI_of f2)⟩
theorem readBd_nil {s : ByteArray} (h : s.size = 0) : readBd s = some [] := if_pos h
theorem readBd_some {s : ByteArray} (h : s.size ≠ 0) : readBd s = allM readSt (splT s 32) := if_neg h
theorem size_zero {s : ByteArray} (h : s.size = 0) : s = ByteArray.mk #[] := by
  obtain ⟨⟨l⟩⟩ := s
  match l, h with
  | [], _ => rfl
/-- A step and whether the text is one's. -/
def stA (s : ByteArray) : St × Bool := match readSt s with
  | some x => (x, true)
  | none => (zSt, false)
theorem stA_yes {s : ByteArray} {x : St} (h : readSt s = some x) : stA s = (x, true) := by unfold stA; rw [h]
theorem stA_no {s : ByteArray} (h : readSt s = none) : stA s = (zSt, false) := by unfold stA; rw [h]
def StepOk (S : HP) (a : St × Bool) (w : World) (e : Ending) (w' : World) : Prop := e = .returned (.tuple #[.agg #[.int .i64 a.1.k, .int .i64 a.1.a, .int .i64 a.1.b], .bool a.2]) ∧ Post w S w'
/-- An empty row that lies beside others. -/
theorem Row.alone {w : World} {g : Nat} {A B C : HP} {e : TypeId} {size : Nat} (H : SepI w (A * (pts g (.cells #[] e (0, 0)) * (B * C)))) : SepI w (Row e size (.slice (some ⟨g, 0, none⟩) 0 0) 0 [] * (A * (B * C))) := by
  rw [star_left] at H
  exact Row.nil0 H
theorem ints_next {vs : List Int} (v : Int) : ints vs ++ #[Value.int .i64 v].toList = ints (vs ++ [v]) := by rw [ints_append]; rfl
set_option maxRecDepth 100000 in
set_option maxHeartbeats 4000000 in
theorem impl_parseStep (S : HP) (w : World) [H : SepI w S] [t : TabI S] [x : ErrI S] [n : LenI S] (s : ByteArray) (hs : s.size ≤ 4000) :
    Calls Tryd.prog 62 #[.string s] w (StepOk S (stA s) w) := by
  have hnot : ∀ (x : Bool) (w : World), (Op.unary .not (.bool x)).run Tryd.prog w = .ok (.bool (!x)) w := fun _ _ => rfl
  obtain ⟨L, hL⟩ : ∃ L, splT s 46 = L := ⟨_, rfl⟩
  obtain ⟨m, hm⟩ : ∃ m, m = L.length := ⟨_, rfl⟩
  have hml : m ≤ 4001 := by have := parts_len s 46; rw [hL] at this; omega
  have HSP : Hd (∀ (S' : HP) (w' : World), SepI w' S' → LenI S' → Calls Tryd.prog 43 #[.string s, .string ⟨#[46]⟩] w' fun e w'' => ∃ g c, e = .returned (.slice (some ⟨g, 0, none⟩) m c) ∧ m ≤ c ∧ Post w' (Row 9 1 (.slice (some ⟨g, 0, none⟩) m c) m (strs L) * S') w'') := ⟨fun S' w' h1 h2 => by
    have h := split_post S' w' s 46 (by omega)
    rw [hL] at h
    unfold StrsP at h
    rw [← hm] at h
    exact h⟩
  have HM := Hd.mk hm
  have HSZ : Hd (∀ (k : Nat) (p : ByteArray), L[k]? = some p → p.size ≤ 1048576) := ⟨fun k p h => by
    have := part_size (s := s) (b := 46) (x := p) (by rw [hL]; exact List.mem_of_getElem? h)
    omega⟩
  have HMS : Hd (∀ (k : Nat) (p : ByteArray) (v : Int), L[k]? = some p → ans_Int p = (v, false) → stA s = (zSt, false)) := ⟨fun k p v h h2 => stA_no (readSt_miss (by rw [hL]; exact h) h2)⟩
  have HLN : Hd (m ≠ 3 → stA s = (zSt, false)) := ⟨fun h => stA_no (readSt_len (by rw [hL, ← hm]; exact h))⟩
  have HAL : Hd (∀ vs, allM readI L = some vs → vs.length = 3 → ∃ k a b, vs = [k, a, b] ∧ stA s = (⟨k, a, b⟩, true)) := ⟨fun vs h h3 => by
    obtain ⟨k, a, b, h4, h5⟩ := readSt_all (s := s) (by rw [hL]; exact h) h3
    exact ⟨k, a, b, h4, stA_yes h5⟩⟩
  obtain ⟨A, hA⟩ : ∃ A, stA s = A := ⟨_, rfl⟩
  rw [hA]
  have HA := Hd.mk hA
  clear hL hm hA
  go_enter Tryd.func62, Tryd.ntmps62
  go_wp2_with fail
  refine (HSP.out _ _ inferInstance inferInstance).mono ?_
  rintro e w1 ⟨gL, cL, rfl, hcL, HP⟩
  have HS1 := HP.sep
  have HE1 := HP.ext
  clear HP
  go_wp2
  go_loopw [4, 13] (fun v4 v13 wr => ∃ (i : Nat) (vv : Value) (vs : List Int), i ≤ m ∧ v13 = .int .i64 i ∧ v4 = vv ∧ Hd (vs.length = i) ∧ Hd (allM readI (L.take i) = some vs) ∧ ExtI w wr ∧ SepI wr (Row 3 1 vv i (ints vs) * (Row 9 1 (.slice (some ⟨gL, 0, none⟩) m cL) m (strs L) * (pts w.heap.size (.cells #[.int .i64 0, .int .i64 0, .int .i64 0] 78 (0, 0)) * S)))) (fun _ v _ => m - (intOf v).toNat)
  case atStart => exact ⟨0, .slice (some ⟨w.heap.size + 1, 0, none⟩) 0 0, [], Nat.zero_le _, rfl, rfl, ⟨rfl⟩, ⟨rfl⟩, inferInstance, by
    exact Row.alone HS1⟩
  case round =>
    obtain ⟨i, vv, vs, hi, rfl, rfl, HVL, HAV, HX, HS⟩ := hrel
    obtain ⟨A4, c4, rfl, hc40, hc41⟩ := Row.form HS
    by_cases hlt : i < m
    · obtain ⟨p, hp⟩ := get_ex (xs := L) (k := i) (by rw [← HM.out]; exact hlt)
      have d1 : CellAt _ gL _ _ := Row.cellAt (e := 9) (size := 1) (g := gL) (n := m) (c := cL) (F := pts w.heap.size (.cells #[.int .i64 0, .int .i64 0, .int .i64 0] 78 (0, 0)) * S) (strs_get hp)
      have hps := HSZ.out i p hp
      obtain ⟨⟨v, ok⟩, hv⟩ : ∃ a, ans_Int p = a := ⟨_, rfl⟩
      have HV := Hd.mk hv
      have HPP := Hd.mk hp
      clear hp hv
      cases ok
      · have HZ := HMS.out i p v HPP.out HV.out
        rw [HA.out] at HZ
        have HZ2 := Hd.mk HZ
        clear HZ
        go_wp2_with fail
        refine (impl_ParseInt _ _ p hps).mono ?_
        rw [HV.out]
        rintro e w2 ⟨rfl, HP⟩
        have HS2 := HP.sep
        have HE2 := HP.ext
        clear HP
        go_wp2
        refine bodyPost_ret (v := .tuple #[.agg #[.int .i64 0, .int .i64 0, .int .i64 0], .bool false]) (by simp [results, Tryd.results62, go_sem]) rfl ?_
        rw [HZ2.out]
        exact ⟨rfl, Post.mk' (Ent.sep (S := _) inferInstance inferInstance) inferInstance⟩
      · have HNX : Hd (allM readI (L.take (i + 1)) = some (vs ++ [v])) := ⟨allM_next HPP.out HAV.out (readI_yes HV.out)⟩
        go_wp2_with fail
        refine (impl_ParseInt _ _ p hps).mono ?_
        rw [HV.out]
        rintro e w2 ⟨rfl, HP⟩
        have HS2 := HP.sep
        have HE2 := HP.ext
        clear HP
        go_wp2_with (at_builtin; go_must (refine ev_append (v := .slice A4 i c4) rfl _ _ 95 rfl rfl 8 _ Tryd.underlying95 info_int rfl (by decide) (by decide) (w2.heap.size) 1 1 rfl rfl (by simp [Value.oneCell']) (by omega) ?_); intro v5 w5 HS5 HE5; replace HS5 := Row.asS HS5 rfl (ints_next v))
        go_roundw
        case rel => exact ⟨i + 1, v5, vs ++ [v], by omega, by go_num, rfl, ⟨by rw [List.length_append, HVL.out]; rfl⟩, HNX, inferInstance, Ent.sep (S := _) inferInstance HS5⟩
        case measure => (simp [intOf]; try omega)
    · have : i = m := by omega
      subst this
      by_cases h3 : i = 3
      · have HAV2 : Hd (allM readI L = some vs) := ⟨by have := HAV.out; rwa [HM.out, List.take_length] at this⟩
        obtain ⟨k, a, b, rfl, hz⟩ := HAL.out vs HAV2.out (by rw [HVL.out]; exact h3)
        rw [HA.out] at hz
        subst hz
        subst h3
        obtain ⟨g4, rfl⟩ := Row.addr HS (by omega)
        have e1 : CellAt _ g4 0 _ := Row.cellAt (e := 3) (size := 1) (g := g4) (n := 3) (c := c4) (F := Row 9 1 (.slice (some ⟨gL, 0, none⟩) 3 cL) 3 (strs L) * (pts w.heap.size (.cells #[.int .i64 0, .int .i64 0, .int .i64 0] 78 (0, 0)) * S)) (show (ints [k, a, b])[0]? = some (.int .i64 k) from rfl)
        have e2 : CellAt _ g4 1 _ := Row.cellAt (e := 3) (size := 1) (g := g4) (n := 3) (c := c4) (F := Row 9 1 (.slice (some ⟨gL, 0, none⟩) 3 cL) 3 (strs L) * (pts w.heap.size (.cells #[.int .i64 0, .int .i64 0, .int .i64 0] 78 (0, 0)) * S)) (show (ints [k, a, b])[1]? = some (.int .i64 a) from rfl)
        have e3 : CellAt _ g4 2 _ := Row.cellAt (e := 3) (size := 1) (g := g4) (n := 3) (c := c4) (F := Row 9 1 (.slice (some ⟨gL, 0, none⟩) 3 cL) 3 (strs L) * (pts w.heap.size (.cells #[.int .i64 0, .int .i64 0, .int .i64 0] 78 (0, 0)) * S)) (show (ints [k, a, b])[2]? = some (.int .i64 b) from rfl)
        go_wp2
        refine wp_region_W 9 12 (by kernel_rfl) (by kernel_rfl) (fun w' => w'.cell? ⟨g4, 0, none⟩ = some (.int .i64 k) ∧ w'.cell? ⟨g4, 1, none⟩ = some (.int .i64 a) ∧ w'.cell? ⟨g4, 2, none⟩ = some (.int .i64 b)) ⟨cell_at _ _ _ _ _, cell_at _ _ _ _ _, cell_at _ _ _ _ _⟩ (fun hHeld => ?_)
        refine tkp 0 hHeld ?_
        refine tkp 1 hHeld ?_
        refine tkl 2 hHeld ?_
        refine tkp 3 hHeld ?_
        refine tkp 4 hHeld ?_
        refine tkl 5 hHeld ?_
        refine tkp 6 hHeld ?_
        refine tkp 7 hHeld ?_
        refine tkl 8 hHeld ?_
        refine wpAnyW_done (by kernel_rfl) ?_
        go_wp2
        refine bodyPost_ret (v := .tuple #[.agg #[.int .i64 k, .int .i64 a, .int .i64 b], .bool true]) (by simp [results, Tryd.results62, go_sem]) rfl ?_
        exact ⟨rfl, Post.mk' (Ent.sep (S := _) inferInstance inferInstance) inferInstance⟩
      · have HZ := HLN.out h3
        rw [HA.out] at HZ
        have HZ2 := Hd.mk HZ
        have h3i : ((i : Int) == 3) = false := beq_eq_false_iff_ne.2 (by omega)
        clear HZ h3
        go_wp2
        refine bodyPost_ret (v := .tuple #[.agg #[.int .i64 0, .int .i64 0, .int .i64 0], .bool false]) (by simp [results, Tryd.results62, go_sem]) rfl ?_
        rw [HZ2.out]
        exact ⟨rfl, Post.mk' (Ent.sep (S := _) inferInstance inferInstance) inferInstance⟩
theorem readSt_ans {s p q r : ByteArray} {k a b : Int} {o0 o1 o2 : Bool} (h : splT s 46 = [p, q, r]) (h0 : ans_Int p = (k, o0)) (h1 : ans_Int q = (a, o1)) (h2 : ans_Int r = (b, o2)) : readSt s = if (o0 && o1 && o2) = true then some ⟨k, a, b⟩ else none := by
  cases o0
  · exact readSt_miss (i := 0) (by rw [h]; rfl) h0
  cases o1
  · exact readSt_miss (i := 1) (by rw [h]; rfl) h1
  cases o2
  · exact readSt_miss (i := 2) (by rw [h]; rfl) h2
  · exact readSt_three h h0 h1 h2
def StepP (S : HP) (s : ByteArray) (w : World) (e : Ending) (w' : World) : Prop := ∃ (x : St) (ok : Bool), e = .returned (.tuple #[.agg #[.int .i64 x.k, .int .i64 x.a, .int .i64 x.b], .bool ok]) ∧ Hd (readSt s = if ok = true then some x else none) ∧ Post w S w'
set_option maxRecDepth 100000 in
set_option maxHeartbeats 4000000 in
theorem spec_l2Read (S : HP) (w : World) [H : SepI w S] (s : ByteArray) (hs : s.size ≤ 4000) :
    Calls Tryd.prog 59 #[.string s] w (StepP S s w) := by
  have hnot : ∀ (x : Bool) (w : World), (Op.unary .not (.bool x)).run Tryd.prog w = .ok (.bool (!x)) w := fun _ _ => rfl
  obtain ⟨L, hL⟩ : ∃ L, splT s 46 = L := ⟨_, rfl⟩
  obtain ⟨m, hm⟩ : ∃ m, m = L.length := ⟨_, rfl⟩
  have hml : m ≤ 4001 := by have := parts_len s 46; rw [hL] at this; omega
  have HSP : Hd (∀ (S' : HP) (w' : World), SepI w' S' → Calls Tryd.prog 42 #[.string s, .int .u8 46] w' fun e w'' => ∃ g c, e = .returned (.slice (some ⟨g, 0, none⟩) m c) ∧ m ≤ c ∧ Post w' (Row 9 1 (.slice (some ⟨g, 0, none⟩) m c) m (strs L) * S') w'') := ⟨fun S' w' h1 => by
    have h := spec_l1Split S' w' s 46 (by omega)
    rw [hL] at h
    unfold StrsP at h
    rw [← hm] at h
    exact h⟩
  have HSZ : Hd (∀ (p : ByteArray), p ∈ L → p.size ≤ 1048576) := ⟨fun p h => by
    have := part_size (s := s) (b := 46) (x := p) (by rw [hL]; exact h)
    omega⟩
  by_cases h3 : m = 3
  · subst h3
    obtain ⟨p, q, r, rfl⟩ : ∃ p q r, L = [p, q, r] := by
      match L, hm with
      | [p, q, r], _ => exact ⟨p, q, r, rfl⟩
    have hp := HSZ.out p (by simp)
    have hq := HSZ.out q (by simp)
    have hr := HSZ.out r (by simp)
    obtain ⟨⟨k, o0⟩, h0⟩ : ∃ a, ans_Int p = a := ⟨_, rfl⟩
    obtain ⟨⟨a, o1⟩, h1⟩ : ∃ a, ans_Int q = a := ⟨_, rfl⟩
    obtain ⟨⟨b, o2⟩, h2⟩ : ∃ a, ans_Int r = a := ⟨_, rfl⟩
    have HR := Hd.mk (readSt_ans hL h0 h1 h2)
    have H0 := Hd.mk h0
    have H1 := Hd.mk h1
    have H2 := Hd.mk h2
    clear hL hm h0 h1 h2
    go_enter Tryd.func59, Tryd.ntmps59
    go_wp2_with fail
    refine (HSP.out _ _ inferInstance).mono ?_
    rintro e w1 ⟨gL, cL, rfl, hcL, HP⟩
    have HS1 := HP.sep
    have HE1 := HP.ext
    clear HP
    have d0 : CellAt _ gL 0 _ := Row.cellAt (e := 9) (size := 1) (g := gL) (n := 3) (c := cL) (F := (pts w.heap.size (.cells #[.int .i64 0, .int .i64 0, .int .i64 0] 78 (0, 0)) * S)) (show (strs [p, q, r])[0]? = some (.string p) from rfl)
    have d1 : CellAt _ gL 1 _ := Row.cellAt (e := 9) (size := 1) (g := gL) (n := 3) (c := cL) (F := (pts w.heap.size (.cells #[.int .i64 0, .int .i64 0, .int .i64 0] 78 (0, 0)) * S)) (show (strs [p, q, r])[1]? = some (.string q) from rfl)
    have d2 : CellAt _ gL 2 _ := Row.cellAt (e := 9) (size := 1) (g := gL) (n := 3) (c := cL) (F := (pts w.heap.size (.cells #[.int .i64 0, .int .i64 0, .int .i64 0] 78 (0, 0)) * S)) (show (strs [p, q, r])[2]? = some (.string r) from rfl)
    go_wp2_with fail
    refine (spec_l1Read _ _ p hp).mono ?_
    rw [H0.out]
    rintro e w2 ⟨rfl, HP⟩
    have HS2 := HP.sep
    have HE2 := HP.ext
    clear HP
    go_wp2_with fail
    refine (spec_l1Read _ _ q hq).mono ?_
    rw [H1.out]
    rintro e w3 ⟨rfl, HP⟩
    have HS3 := HP.sep
    have HE3 := HP.ext
    clear HP
    go_wp2_with fail
    refine (spec_l1Read _ _ r hr).mono ?_
    rw [H2.out]
    rintro e w4 ⟨rfl, HP⟩
    have HS4 := HP.sep
    have HE4 := HP.ext
    clear HP
    cases o0 <;> cases o1 <;> cases o2
    · go_wp2
      refine bodyPost_ret (v := .tuple #[.agg #[.int .i64 k, .int .i64 a, .int .i64 b], .bool false]) (by simp [results, Tryd.results59, go_sem]) rfl ?_
      exact ⟨⟨k, a, b⟩, false, rfl, ⟨by have := HR.out; simpa using this⟩, Post.mk' (Ent.sep (S := _) inferInstance inferInstance) inferInstance⟩
    · go_wp2
      refine bodyPost_ret (v := .tuple #[.agg #[.int .i64 k, .int .i64 a, .int .i64 b], .bool false]) (by simp [results, Tryd.results59, go_sem]) rfl ?_
      exact ⟨⟨k, a, b⟩, false, rfl, ⟨by have := HR.out; simpa using this⟩, Post.mk' (Ent.sep (S := _) inferInstance inferInstance) inferInstance⟩
    · go_wp2
      refine bodyPost_ret (v := .tuple #[.agg #[.int .i64 k, .int .i64 a, .int .i64 b], .bool false]) (by simp [results, Tryd.results59, go_sem]) rfl ?_
      exact ⟨⟨k, a, b⟩, false, rfl, ⟨by have := HR.out; simpa using this⟩, Post.mk' (Ent.sep (S := _) inferInstance inferInstance) inferInstance⟩
    · go_wp2
      refine bodyPost_ret (v := .tuple #[.agg #[.int .i64 k, .int .i64 a, .int .i64 b], .bool false]) (by simp [results, Tryd.results59, go_sem]) rfl ?_
      exact ⟨⟨k, a, b⟩, false, rfl, ⟨by have := HR.out; simpa using this⟩, Post.mk' (Ent.sep (S := _) inferInstance inferInstance) inferInstance⟩
    · go_wp2
      refine bodyPost_ret (v := .tuple #[.agg #[.int .i64 k, .int .i64 a, .int .i64 b], .bool false]) (by simp [results, Tryd.results59, go_sem]) rfl ?_
      exact ⟨⟨k, a, b⟩, false, rfl, ⟨by have := HR.out; simpa using this⟩, Post.mk' (Ent.sep (S := _) inferInstance inferInstance) inferInstance⟩
    · go_wp2
      refine bodyPost_ret (v := .tuple #[.agg #[.int .i64 k, .int .i64 a, .int .i64 b], .bool false]) (by simp [results, Tryd.results59, go_sem]) rfl ?_
      exact ⟨⟨k, a, b⟩, false, rfl, ⟨by have := HR.out; simpa using this⟩, Post.mk' (Ent.sep (S := _) inferInstance inferInstance) inferInstance⟩
    · go_wp2
      refine bodyPost_ret (v := .tuple #[.agg #[.int .i64 k, .int .i64 a, .int .i64 b], .bool false]) (by simp [results, Tryd.results59, go_sem]) rfl ?_
      exact ⟨⟨k, a, b⟩, false, rfl, ⟨by have := HR.out; simpa using this⟩, Post.mk' (Ent.sep (S := _) inferInstance inferInstance) inferInstance⟩
    · go_wp2
      refine bodyPost_ret (v := .tuple #[.agg #[.int .i64 k, .int .i64 a, .int .i64 b], .bool true]) (by simp [results, Tryd.results59, go_sem]) rfl ?_
      exact ⟨⟨k, a, b⟩, true, rfl, ⟨by have := HR.out; simpa using this⟩, Post.mk' (Ent.sep (S := _) inferInstance inferInstance) inferInstance⟩
  · have HN := Hd.mk (readSt_len (s := s) (by rw [hL, ← hm]; exact h3))
    have h3i : ((m : Int) == 3) = false := beq_eq_false_iff_ne.2 (by omega)
    clear hL hm h3
    go_enter Tryd.func59, Tryd.ntmps59
    go_wp2_with fail
    refine (HSP.out _ _ inferInstance).mono ?_
    rintro e w1 ⟨gL, cL, rfl, hcL, HP⟩
    have HS1 := HP.sep
    have HE1 := HP.ext
    clear HP
    go_wp2
    refine bodyPost_ret (v := .tuple #[.agg #[.int .i64 0, .int .i64 0, .int .i64 0], .bool false]) (by simp [results, Tryd.results59, go_sem]) rfl ?_
    exact ⟨⟨0, 0, 0⟩, false, rfl, ⟨by rw [HN.out]; rfl⟩, Post.mk' (Ent.sep (S := _) inferInstance inferInstance) inferInstance⟩
end Go.Proofs.YtnioipbofopocaaDoor
