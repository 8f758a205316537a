/- Texts of marks; slices of strings marked and held; the law SplitString. Conditions: lengths within bounds; the cell of the greatest length reads as it is laid. -/
import Derived.Test.YtnioipbofopocaaDoorTx
import Derived.Deep.RegionWith
namespace Go.Proofs.YtnioipbofopocaaDoor
open Go.RowKit SL
attribute [local go_sem] cell_blk frozen_blk lt_blk cell_at frozen_row lt_row
set_option linter.unusedVariables false
set_option linter.unusedSimpArgs false

/-- The text of a mark. -/
def markB (q : Nat) : ByteArray := mkT (109 :: Lib.decDigits q)
def decD (u : Nat) : List UInt8 := if u = 0 then [] else Lib.decDigits u
theorem decD_pos {u : Nat} (h : 0 < u) : decD u = Lib.decDigits u := if_neg (by omega)
theorem decD_step {u : Nat} (h : 0 < u) (R : List UInt8) : decD (u / 10) ++ UInt8.ofNat (48 + u % 10) :: R = decD u ++ R := by
  rw [decD_pos h]
  by_cases h10 : u < 10
  · rw [Lib.decDigits_one h10, show u / 10 = 0 from by omega, show u % 10 = u from by omega]; rfl
  · rw [decDigits_more h10, decD_pos (by omega), Lib.decDigits_one (i := u % 10) (by omega), List.append_assoc]; rfl
theorem conv_byte (x : Int) (w : World) (g : Nat) (hg : w.cell? ⟨g, 0, none⟩ = some (.int .u8 x)) :
    (convert 90 9 (.slice (some ⟨g, 0, none⟩) 1 1)).run Tryd.prog w = .ok (.string (mkT [UInt8.ofNat x.toNat])) w :=
  run_convert_bytes_arg (P := Tryd.prog) w 90 5 Tryd.underlying90 Tryd.underlying5 g 0 1 1 [x] rfl (fun i hi => by
    obtain rfl : i = 0 := by omega
    exact hg) 9 Tryd.underlying9
set_option maxRecDepth 100000 in
set_option maxHeartbeats 4000000 in
theorem markText (S : HP) (w : World) [H : SepI w S] (q : Nat) (hq : q ≤ 4611686018427387904) :
    Calls Tryd.prog 44 #[.int .i64 (q : Int)] w fun e w' => e = .returned (.string (markB q)) ∧ Post w S w' := by
  obtain ⟨Z, hZ⟩ : ∃ Z, markB q = Z := ⟨_, rfl⟩
  rw [hZ]
  have HZ := Hd.mk hZ
  clear hZ
  by_cases h0 : q = 0
  · subst h0
    have HM : Hd (ByteArray.mk #[109, 48] = Z) := ⟨by rw [← HZ.out]; unfold markB; rw [Lib.decDigits_one (by omega)]; rfl⟩
    go_enter Tryd.func44, Tryd.ntmps44
    go_wp2
    go_ret
    exact ⟨by rw [← HM.out]; rfl, Post.mk' inferInstance inferInstance⟩
  · have hqi : ¬ (q : Int) ≤ 0 := by omega
    have HL : Hd ((Lib.decDigits q).length ≤ 20) := ⟨by rw [Lib.decDigits_length]; exact Lib.nDigits_le20 q (by omega)⟩
    have HD0 : Hd (decD q = Lib.decDigits q) := ⟨decD_pos (by omega)⟩
    clear h0
    go_enter Tryd.func44, Tryd.ntmps44
    go_wp2
    go_loopw [0, 3] (fun v0 v3 wr => ∃ (u : Nat) (R : List UInt8), v0 = .int .i64 u ∧ v3 = .string (mkT R) ∧ u ≤ q ∧ Hd (decD u ++ R = Lib.decDigits q) ∧ ExtI w wr ∧ SepI wr S) (fun v _ _ => (intOf v).toNat)
    case atStart => exact ⟨q, [], rfl, rfl, Nat.le_refl _, ⟨by rw [HD0.out, List.append_nil]⟩, inferInstance, inferInstance⟩
    case round =>
      obtain ⟨u, R, rfl, rfl, hu, HR, HX, HS⟩ := hrel
      have hrs : (mkT R).size ≤ 20 := by
        have h1 := HL.out
        rw [← HR.out, List.length_append] at h1
        rw [mkT_size]
        omega
      by_cases hlt : 0 < u
      · obtain ⟨d, hd⟩ : ∃ d, u / 10 = d := ⟨_, rfl⟩
        obtain ⟨r, hr⟩ : ∃ r, u % 10 = r := ⟨_, rfl⟩
        have HST : Hd (decD d ++ UInt8.ofNat (48 + r) :: R = Lib.decDigits q) := ⟨by rw [← hd, ← hr, decD_step hlt, HR.out]⟩
        have hrl : r < 10 := by omega
        have hdl : d < u := by omega
        have hdv : (u : Int).tdiv 10 = (d : Int) := by rw [Int.tdiv_eq_ediv_of_nonneg (by omega)]; omega
        have hmd : (u : Int).tmod 10 = (r : Int) := by rw [Int.tmod_eq_emod_of_nonneg (by omega)]; omega
        have hwq : IntKind.i64.wrap (d : Int) = (d : Int) := IntWalk.i64_in _ (by omega)
        have hwr : IntKind.i64.wrap (r : Int) = (r : Int) := IntWalk.i64_in _ (by omega)
        have hw8 : IntKind.i64.wrap (48 + (r : Int)) = 48 + (r : Int) := IntWalk.i64_in _ (by omega)
        have hwb : IntKind.u8.wrap (48 + (r : Int)) = 48 + (r : Int) := by unfold IntKind.wrap; simp [IntKind.bits, IntKind.signed]; omega
        obtain ⟨y, hy⟩ : ∃ y, mkT [UInt8.ofNat (48 + r)] = y := ⟨_, rfl⟩
        have hys : y.size ≤ 1 := by rw [← hy, mkT_size]; exact Nat.le_refl _
        have HY : Hd (y ++ mkT R = mkT (UInt8.ofNat (48 + r) :: R)) := ⟨by rw [← hy, mkT_append]; rfl⟩
        have hcv : ∀ W : World, W.cell? ⟨wr.heap.size, 0, none⟩ = some (.int .u8 (48 + (r : Int))) → (convert 90 9 (.slice (some ⟨wr.heap.size, 0, none⟩) 1 1)).run Tryd.prog W = .ok (.string y) W := fun W hW => by
          have := conv_byte (48 + (r : Int)) W wr.heap.size hW
          rw [show (48 + (r : Int)).toNat = 48 + r from by omega, hy] at this
          exact this
        have HCV := Hd.mk hcv
        have hcv2 : (convert 90 9 (.slice (some ⟨wr.heap.size, 0, none⟩) 1 1)).run Tryd.prog (wr.alloc (.cells #[.int .u8 (48 + (r : Int))] 5 (0, 0))) = .ok (.string y) (wr.alloc (.cells #[.int .u8 (48 + (r : Int))] 5 (0, 0))) := hcv _ (by simp [go_sem])
        clear hd hr hcv hy
        go_wp2
        go_roundw
        case rel => exact ⟨d, UInt8.ofNat (48 + r) :: R, by first | rfl | go_num, by rw [← HY.out], by omega, ⟨HST.out⟩, inferInstance, Ent.sep (S := _) inferInstance inferInstance⟩
        case measure => (simp [intOf]; try omega)
      · have : u = 0 := by omega
        subst this
        have HN : Hd (ByteArray.mk #[109] ++ mkT R = Z) := ⟨by rw [← HZ.out]; unfold markB; rw [← HR.out]; exact mkT_append [109] R⟩
        go_wp2
        go_ret
        exact ⟨by rw [← HN.out]; rfl, Post.mk' inferInstance inferInstance⟩

/-- The marks of strings. -/
def mkStrs (q : Nat) : Nat → List ByteArray
  | 0 => []
  | n + 1 => mkStrs q n ++ [markB (q + n)]
theorem mkStrs_len (q : Nat) (n : Nat) : (mkStrs q n).length = n := by
  induction n with
  | zero => rfl
  | succ n ih => simp [mkStrs, ih]
theorem mkStrs_get (q : Nat) : ∀ {n k : Nat}, k < n → (mkStrs q n)[k]? = some (markB (q + k))
  | 0, k, h => by omega
  | n + 1, k, h => by
    by_cases hk : k < n
    · rw [mkStrs, List.getElem?_append_left (by rw [mkStrs_len]; exact hk)]; exact mkStrs_get q hk
    · have : k = n := by omega
      subst this
      rw [mkStrs, List.getElem?_append_right (by rw [mkStrs_len]; exact Nat.le_refl _), mkStrs_len, Nat.sub_self]
      rfl
set_option maxRecDepth 100000 in
set_option maxHeartbeats 4000000 in
theorem markStringS (F : HP) (w : World) (A : Option Addr) (c : Nat) (l : List ByteArray) [H : SepI w (Row 9 1 (.slice A l.length c) l.length (strs l) * F)] (q : Nat) (hl : l.length ≤ 140737488355328) (h1 : q ≤ 2305843009213693952) :
    Calls Tryd.prog 16 #[.slice A l.length c, .int .i64 (q : Int)] w fun e w' => e = .returned (.int .i64 ((q : Int) + l.length)) ∧
      Post w (Row 9 1 (.slice A l.length c) l.length (strs (mkStrs q l.length)) * F) w' := by
  obtain ⟨n, hn'⟩ : ∃ n, n = l.length := ⟨_, rfl⟩
  have HN := Hd.mk hn'
  rw [← hn'] at hl ⊢
  rw [← hn'] at H
  clear hn'
  go_enter Tryd.func16, Tryd.ntmps16
  go_wp2
  go_loopw [1, 5] (fun v i wr => ∃ k : Nat, k ≤ n ∧ i = .int .i64 k ∧ v = .int .i64 ((q + k : Nat) : Int) ∧ ExtI w wr ∧
    SepI wr (Row 9 1 (.slice A n c) n (strs (mkStrs q k ++ l.drop k)) * F)) (fun _ i _ => n - (intOf i).toNat)
  case atStart => exact ⟨0, Nat.zero_le _, rfl, rfl, inferInstance, by simpa [mkStrs] using H⟩
  case round =>
    obtain ⟨k, hk, rfl, rfl, HX, HS⟩ := hrel
    obtain ⟨p, hp⟩ : ∃ p, q + k = p := ⟨_, rfl⟩
    rw [hp]
    have HP0 := Hd.mk hp
    have hpb : p ≤ 2305843009213693952 + 140737488355328 := by omega
    by_cases hlt : k < n
    · obtain ⟨x, hx⟩ := get_ex (xs := l) (k := k) (by rw [← HN.out]; exact hlt)
      obtain ⟨g, rfl⟩ := Row.addr HS (by omega)
      have hz : (mkStrs q k ++ l.drop k)[k]? = some x := by
        rw [List.getElem?_append_right (by rw [mkStrs_len]; exact Nat.le_refl _), mkStrs_len, Nat.sub_self, List.getElem?_drop]; exact hx
      have d1 : CellAt _ g _ _ := Row.cellAt (e := 9) (size := 1) (g := g) (n := n) (c := c) (F := F) (strs_get hz)
      have hd : l.drop k = x :: l.drop (k + 1) := by
        obtain ⟨hlt', e⟩ := List.getElem?_eq_some_iff.1 hx
        rw [List.drop_eq_getElem_cons hlt', e]
      have HG := Hd.mk hd
      have hw : IntKind.i64.wrap ((p : Int) + 1) = (p : Int) + 1 := IntWalk.i64_in _ (by omega)
      clear hx hz hd hp
      go_wp2_with fail
      refine (markText _ _ p (by omega)).mono ?_
      rintro e w1 ⟨rfl, HP⟩
      have HS1 := HP.sep
      have HE1 := HP.ext
      clear HP
      go_wp2
      go_roundw
      case rel => exact ⟨k + 1, by omega, by go_num, by (rw [show q + (k + 1) = p + 1 from by have := HP0.out; omega]; rfl), inferInstance, SepI.cast inferInstance (by
        rw [HG.out, show strs (mkStrs q (k + 1) ++ l.drop (k + 1)) = _ from (strs_upd (mkStrs q k) (l.drop (k + 1)) x (markB (q + k)) k (mkStrs_len _ _)).symm, HP0.out])⟩
      case measure => (simp [intOf]; omega)
    · have : k = n := by omega
      subst this
      have hpi : (p : Int) = (q : Int) + k := by omega
      have HPI := Hd.mk hpi
      clear hp hpi
      go_wp2
      go_ret
      exact ⟨ret_i (by rw [HPI.out]), Post.mk' (by rw [HN.out, List.drop_length, List.append_nil, ← HN.out] at HS; exact HS) HX⟩
set_option maxRecDepth 100000 in
set_option maxHeartbeats 4000000 in
theorem heldStringS (S : HP) (w : World) [H : SepI w S] (A : Option Addr) (c n : Nat) (q : Nat) [r : Rd S A (strs (mkStrs q n))] (hn : n ≤ 140737488355328) (h1 : q ≤ 2305843009213693952) :
    Calls Tryd.prog 17 #[.slice A n c, .int .i64 (q : Int)] w fun e w' => e = .returned (.int .i64 ((q : Int) + n)) ∧ Post w S w' := by
  go_enter Tryd.func17, Tryd.ntmps17
  go_wp2
  go_loopw [1, 5] (fun v i wr => ∃ k : Nat, k ≤ n ∧ i = .int .i64 k ∧ v = .int .i64 ((q + k : Nat) : Int) ∧ ExtI w wr ∧ SepI wr S) (fun _ i _ => n - (intOf i).toNat)
  case atStart => exact ⟨0, Nat.zero_le _, rfl, rfl, inferInstance, H⟩
  case round =>
    obtain ⟨k, hk, rfl, rfl, HX, HS⟩ := hrel
    obtain ⟨p, hp⟩ : ∃ p, q + k = p := ⟨_, rfl⟩
    rw [hp]
    have HP0 := Hd.mk hp
    have hpb : p ≤ 2305843009213693952 + 140737488355328 := by omega
    by_cases hlt : k < n
    · obtain ⟨b, off, rfl⟩ := r.addr H (j := k) (by rw [strs_len, mkStrs_len]; omega)
      have c1 := r.cell (strs_get (mkStrs_get q hlt))
      rw [hp] at c1
      have hw : IntKind.i64.wrap ((p : Int) + 1) = (p : Int) + 1 := IntWalk.i64_in _ (by omega)
      clear hp
      go_wp2
      go_region_with (go_at_call 44; refine (markText _ _ p (by omega)).mono ?_; rintro e w1 ⟨rfl, HP⟩; have HS1 := HP.sep; have HE1 := HP.ext; clear HP)
      all_goals
        go_wp2
        go_roundw
        case rel => exact ⟨k + 1, by omega, by go_num, by (rw [show q + (k + 1) = p + 1 from by have := HP0.out; omega]; rfl), inferInstance, inferInstance⟩
        case measure => (simp [intOf]; omega)
    · have : k = n := by omega
      subst this
      have hpi : (p : Int) = (q : Int) + k := by omega
      have HPI := Hd.mk hpi
      clear hp hpi
      go_wp2
      go_ret
      exact ⟨ret_i (by rw [HPI.out]), Post.mk' inferInstance inferInstance⟩
instance (priority := low) LenI.there (X S : HP) [i : LenI S] : LenI (X * S) := ⟨fun w H => i.out w H.right⟩
theorem splT_len (s : ByteArray) (b : UInt8) : (splT s b).length ≤ s.size + 1 := by
  have h := splF_len b s.data.toList s.size
  rw [← data_len, List.take_length, data_len] at h
  unfold splT splitL
  rw [List.length_map, List.length_append, List.length_singleton]
  omega
theorem ans_Spl_len (s sep : ByteArray) : (ans_Spl s sep).1.length ≤ s.size + 1 := by
  unfold ans_Spl
  split
  · exact splT_len _ _
  · exact Nat.zero_le _
set_option maxRecDepth 100000 in
set_option maxHeartbeats 4000000 in
theorem law_SplitString (S : HP) (w : World) [H : SepI w S] [t : LenI S] (s : ByteArray) (hs0 : s.size ≤ 140737488351232) (sep : ByteArray) (hp0 : sep.size ≤ 140737488351232) :
    Calls Tryd.prog 4 #[.string s, .string sep] w fun e w' => e = .returned (.bool true) ∧ Post w S w' := by
  have hnot : ∀ (x : Bool) (w : World), (Op.unary .not (.bool x)).run Tryd.prog w = .ok (.bool (!x)) w := fun _ _ => rfl
  by_cases hb : s.size ≤ 1048576
  · have hbi : ¬ (1048576 : Int) < (s.size : Int) := by omega
    by_cases hp : sep.size ≤ 1048576
    · have hpi : ¬ (1048576 : Int) < (sep.size : Int) := by omega
      obtain ⟨ans, hans⟩ : ∃ ans, ans_Spl s sep = ans := ⟨_, rfl⟩
      have HANS := Hd.mk hans
      clear hans
      go_enter Tryd.func4, Tryd.ntmps4
      go_wp2_with fail
      refine (spec_SplitString _ _ s sep hb hp).mono ?_
      rw [HANS.out]
      obtain ⟨av, ao⟩ := ans
      rintro e w1 ⟨A1, c1, rfl, HP⟩
      have HS1 : SepI w1 (Row 9 1 (.slice A1 av.length c1) av.length (strs av) * S) := HP.sep
      have HE1 := HP.ext
      clear HP
      have hlen : av.length ≤ 2097152 := by
        have h1 := ans_Spl_len s sep
        rw [HANS.out] at h1
        have h2 : av.length ≤ s.size + 1 := h1
        omega
      go_wp2_with fail
      refine (impl_SplitString _ _ s sep hb hp).mono ?_
      rw [HANS.out]
      rintro e w2 ⟨A2, c2, rfl, HP⟩
      have HS2 : SepI w2 (Row 9 1 (.slice A2 av.length c2) av.length (strs av) * (Row 9 1 (.slice A1 av.length c1) av.length (strs av) * S)) := HP.sep
      have HE2 := HP.ext
      clear HP
      go_wp2_with fail
      refine (eqStringS _ _ A2 A1 c2 c1 av (by unfold maxLen; omega)).mono ?_
      rintro e w3 ⟨rfl, HP⟩
      have HS3 := HP.sep
      have HE3 := HP.ext
      clear HP
      go_wp2_with fail
      refine (@markStringS _ w3 A2 c2 av HS3 1 (by omega) (by omega)).mono ?_
      rintro e w4 ⟨rfl, HP⟩
      have HS4 := HP.sep
      have HE4 := HP.ext
      clear HP
      go_wp2_with fail
      refine (heldStringS _ _ A2 c2 av.length 1 (by omega) (by omega)).mono ?_
      rintro e w5 ⟨rfl, HP⟩
      have HS5 := HP.sep
      have HE5 := HP.ext
      clear HP
      go_wp2_with fail
      refine (impl_SplitString _ _ s sep hb hp).mono ?_
      rw [HANS.out]
      rintro e w6 ⟨A6, c6, rfl, HP⟩
      have HS6 : SepI w6 (Row 9 1 (.slice A6 av.length c6) av.length (strs av) * (Row 9 1 (.slice A2 av.length c2) av.length (strs (mkStrs 1 av.length)) * (Row 9 1 (.slice A1 av.length c1) av.length (strs av) * S))) := HP.sep
      have HE6 := HP.ext
      clear HP
      go_wp2_with fail
      refine (eqStringS _ _ A6 A1 c6 c1 av (by unfold maxLen; omega)).mono ?_
      rintro e w7 ⟨rfl, HP⟩
      have HS7 := HP.sep
      have HE7 := HP.ext
      clear HP
      go_wp2_with fail
      refine (heldStringS _ _ A2 c2 av.length 1 (by omega) (by omega)).mono ?_
      rintro e w8 ⟨rfl, HP⟩
      have HS8 := HP.sep
      have HE8 := HP.ext
      clear HP
      go_wp2
      go_ret
      exact ⟨rfl, Post.mk' (Ent.sep (S := _) inferInstance inferInstance) inferInstance⟩
    · have hpi : (1048576 : Int) < (sep.size : Int) := by omega
      clear hp
      go_enter Tryd.func4, Tryd.ntmps4
      go_wp2
      go_ret
      exact ⟨rfl, Post.mk' inferInstance inferInstance⟩
  · have hbi : (1048576 : Int) < (s.size : Int) := by omega
    clear hb
    go_enter Tryd.func4, Tryd.ntmps4
    go_wp2
    go_ret
    exact ⟨rfl, Post.mk' inferInstance inferInstance⟩
end Go.Proofs.YtnioipbofopocaaDoor
