/- slices.DeleteFunc over a row of ints of its own. Conditions: lengths within bounds. -/
import Derived.Test.YtobikkdnalnllaaQa
import Derived.Lib.SliceRun
namespace Go.Proofs.Ytobikkdnalnllaa
open Go.RowKit SL
attribute [local go_sem] cell_blk frozen_blk lt_blk cell_at frozen_row lt_row
set_option linter.unusedVariables false
set_option linter.unusedSimpArgs false

theorem ints_setD (l : List Int) (k : Nat) (x : Int) : (ints l).set k (.int .i64 x) = ints (l.set k x) := by simp [ints, List.map_set]
/-- A list with zs from place o on. -/
def setL {α : Type} : List α → Nat → List α → List α
  | cs, _, [] => cs
  | cs, o, v :: r => setL (cs.set o v) (o + 1) r
theorem setL_len {α : Type} : ∀ (zs cs : List α) (o : Nat), (setL cs o zs).length = cs.length
  | [], cs, o => rfl
  | v :: r, cs, o => by rw [setL, setL_len r, List.length_set]
theorem setL_take {α : Type} : ∀ (zs cs : List α) (o i : Nat), i ≤ o → (setL cs o zs).take i = cs.take i
  | [], cs, o, i, h => rfl
  | v :: r, cs, o, i, h => by
    rw [setL, setL_take r _ _ i (by omega)]
    refine List.ext_getElem? fun j => ?_
    rw [List.getElem?_take, List.getElem?_take]
    split
    · rw [List.getElem?_set_ne (by omega)]
    · rfl
theorem setL_get {α : Type} : ∀ (zs cs : List α) (o j : Nat), o + zs.length ≤ cs.length → (setL cs o zs)[j]? = if o ≤ j ∧ j < o + zs.length then zs[j - o]? else cs[j]?
  | [], cs, o, j, h => by rw [setL, if_neg (by simp)]
  | v :: r, cs, o, j, h => by
    rw [List.length_cons] at h
    rw [setL, setL_get r _ _ j (by rw [List.length_set]; omega), List.length_cons]
    by_cases hj : o = j
    · subst hj
      rw [if_neg (by omega), if_pos (by omega), List.getElem?_set_self (by omega), Nat.sub_self]; rfl
    · by_cases h2 : o + 1 ≤ j ∧ j < o + 1 + r.length
      · rw [if_pos h2, if_pos (by omega), show j - o = (j - (o + 1)) + 1 from by omega]; rfl
      · rw [if_neg h2, if_neg (by omega), List.getElem?_set_ne hj]
theorem setL_all {α : Type} {zs cs : List α} (h : zs.length = cs.length) : setL cs 0 zs = zs := by
  refine List.ext_getElem? fun j => ?_
  rw [setL_get _ _ _ _ (by omega)]
  split
  · rfl
  · rw [List.getElem?_eq_none (by omega), List.getElem?_eq_none (by omega)]
theorem SepI.setCellsRow {F : HP} {g n c : Nat} {e : TypeId} : ∀ (zs cs : List Value) (o : Nat) (w : World), SepI w (Row e 1 (.slice (some ⟨g, 0, none⟩) n c) n cs * F) → SepI (w.setCells g o zs) (Row e 1 (.slice (some ⟨g, 0, none⟩) n c) n (setL cs o zs) * F)
  | [], cs, o, w, H => H
  | v :: r, cs, o, w, H => SepI.setCellsRow r (cs.set o v) (o + 1) (w.setCell ⟨g, o, none⟩ v) (SepI.i_setRow w _ _ g o v _ _ _ _ _)
theorem ExtI.setCells {u : World} {g : Nat} : ∀ (zs : List Value) (o : Nat) (w : World), ExtI u w → ExtI u (w.setCells g o zs)
  | [], o, w, H => H
  | v :: r, o, w, H => ExtI.setCells r (o + 1) (w.setCell ⟨g, o, none⟩ v) inferInstance
theorem Row.shrink {w : World} {g n c i : Nat} {e : TypeId} {cs : List Value} {F : HP} (H : SepI w (Row e 1 (.slice (some ⟨g, 0, none⟩) n c) n cs * F)) (hi : i ≤ n) : SepI w (Row e 1 (.slice (some ⟨g, 0, none⟩) i c) i (cs.take i) * F) := by
  rcases Row.open H with ⟨hv, _⟩ | ⟨g', cap, cur, hv, hl, h1, h2, h3, h4, H'⟩
  · cases hv
  · injection hv with hA _ hc
    injection hA with hA
    injection hA with hA
    subst hA; subst hc
    have := Row.close (size := 1) (n := i) H' (by omega) h2 h3
    rw [Nat.mul_one] at this h4
    rw [← h4, List.take_take, Nat.min_eq_left hi]
    exact this
theorem zero_int (w : World) : (zeroValue 3).run Try.prog w = .ok (.int .i64 0) w := by
  kernel_rfl
/-- The search of a row of ints, told whole. -/
def IdxAt (S : HP) (l : List Int) (p : Int → Bool) (w : World) (e : Ending) (w' : World) : Prop :=
  ∃ r : Int, e = .returned (.int .i64 r) ∧ ((r = -1 ∧ l.any p = false) ∨ ∃ (k : Nat) (x : Int), r = k ∧ l[k]? = some x ∧ p x = true ∧ (l.take k).any p = false) ∧ Post w S w'
set_option maxHeartbeats 1000000 in
theorem indexAt (S : HP) (w : World) [H : SepI w S] (A : Option Addr) (c : Nat) (l : List Int) [r : Rd S A (ints l)] (hn : l.length ≤ 1048576) (g : Nat) (lb : Array Value) (p : Int → Bool) (eg : Enters g) (hp : ∀ x ∈ l, Pred S g lb (intV x) (p x)) :
    Calls Try.prog 100 #[.slice A l.length c, .func (.func g) #[] lb] w (IdxAt S l p w) := by
  obtain ⟨n, hn'⟩ : ∃ n, n = l.length := ⟨_, rfl⟩
  have HN := Hd.mk hn'
  have HP := Hd.mk hp
  rw [← hn'] at hn ⊢
  clear hn' hp
  unfold Enters at eg
  go_enter Try.func100, Try.ntmps100
  go_wp2
  go_loopw [8] (fun i wr => ∃ k : Nat, k ≤ n ∧ i = .int .i64 k ∧ Hd ((l.take k).any p = false) ∧ SepI wr S ∧ ExtI w wr) (fun i _ => n - (intOf i).toNat)
  case atStart => exact ⟨0, Nat.zero_le _, rfl, ⟨rfl⟩, inferInstance, inferInstance⟩
  case round =>
    obtain ⟨k, hk, rfl, HT, HS, HE⟩ := hrel
    by_cases hlt : k < n
    · obtain ⟨x, hx⟩ := get_ex (xs := l) (k := k) (by rw [← HN.out]; exact hlt)
      obtain ⟨b, off, rfl⟩ := r.addr H (j := k) (by rw [ints_len, ← HN.out]; omega)
      have c1 := r.cell (ints_get hx)
      have hcall : ∀ W, SepI W S → Calls Try.prog g (#[.int .i64 x] ++ lb) W fun e w' => e = .returned (.bool (p x)) ∧ Post W S w' := HP.out x (List.mem_of_getElem? hx)
      have HX := Hd.mk hx
      clear hx
      cases hq : p x
      · rw [hq] at hcall
        have HQ := Hd.mk hq
        have HC := Hd.mk hcall
        clear hq hcall
        go_wp2_with ((with_reducible refine (HC.out _ inferInstance).mono ?_); rintro e w' ⟨rfl, HP'⟩; have HS2 := HP'.sep; have HE2 := HP'.ext; clear HP')
        go_roundw
        case rel => exact ⟨k + 1, by omega, by go_num, ⟨any_take_succ p HX.out HT.out HQ.out⟩, inferInstance, inferInstance⟩
        case measure => simp [intOf]; omega
      · rw [hq] at hcall
        have HQ := Hd.mk hq
        have HC := Hd.mk hcall
        clear hq hcall
        go_wp2_with ((with_reducible refine (HC.out _ inferInstance).mono ?_); rintro e w' ⟨rfl, HP'⟩; have HS2 := HP'.sep; have HE2 := HP'.ext; clear HP')
        go_ret
        exact ⟨k, rfl, .inr ⟨k, x, rfl, HX.out, HQ.out, HT.out⟩, Post.mk' inferInstance inferInstance⟩
    · have : k = n := by omega
      subst this
      go_wp2
      go_ret
      exact ⟨-1, rfl, .inl ⟨rfl, by rw [← HT.out, HN.out, List.take_length]⟩, Post.mk' inferInstance inferInstance⟩

/-- A row on its way: j have been looked at, i are kept. -/
def KeptL (l : List Int) (p : Int → Bool) (i j : Nat) (cs : List Int) : Prop :=
  cs.length = l.length ∧ cs.take i = (l.take j).filter (fun x => !p x) ∧ cs.drop j = l.drop j
theorem KeptL.at {l : List Int} {p : Int → Bool} {i j : Nat} {cs : List Int} (h : KeptL l p i j cs) {x : Int} (hx : l[j]? = some x) : cs[j]? = some x := by
  have := congrArg (fun m => m[0]?) h.2.2
  simpa [hx] using this
theorem KeptL.skip {l : List Int} {p : Int → Bool} {i j : Nat} {cs : List Int} (h : KeptL l p i j cs) {x : Int} (hx : l[j]? = some x) (hp : p x = true) : KeptL l p i (j + 1) cs := by
  refine ⟨h.1, ?_, ?_⟩
  · rw [h.2.1, take_succ_eq hx, List.filter_append]; simp [hp]
  · have := congrArg (List.drop 1) h.2.2
    simpa [List.drop_drop, Nat.add_comm] using this
theorem KeptL.keep {l : List Int} {p : Int → Bool} {i j : Nat} {cs : List Int} (h : KeptL l p i j cs) (hij : i < j) {x : Int} (hx : l[j]? = some x) (hp : p x = false) : KeptL l p (i + 1) (j + 1) (cs.set i x) := by
  have hj := (List.getElem?_eq_some_iff.1 hx).1
  refine ⟨by rw [List.length_set, h.1], ?_, ?_⟩
  · rw [take_succ_eq (x := x) (List.getElem?_set_self (by rw [h.1]; omega)), take_succ_eq hx, List.filter_append, ← h.2.1]
    congr 1
    · refine List.ext_getElem? fun k => ?_
      rw [List.getElem?_take, List.getElem?_take]
      split
      · rw [List.getElem?_set_ne (by omega)]
      · rfl
    · simp [hp]
  · have := congrArg (List.drop 1) h.2.2
    rw [List.drop_drop, List.drop_drop] at this
    rw [List.drop_set_of_lt (by omega)]
    exact this
theorem KeptL.start {l : List Int} {p : Int → Bool} {k : Nat} {x : Int} (hx : l[k]? = some x) (hp : p x = true) (h : (l.take k).any p = false) : KeptL l p k (k + 1) l := by
  refine ⟨rfl, ?_, rfl⟩
  rw [take_succ_eq hx, List.filter_append]
  have : (l.take k).filter (fun x => !p x) = l.take k := List.filter_eq_self.2 fun y hy => by
    have := List.any_eq_false.1 h y hy
    simpa using this
  rw [this]
  simp [hp]
theorem KeptL.done {l : List Int} {p : Int → Bool} {i : Nat} {cs : List Int} (h : KeptL l p i l.length cs) : cs.take i = l.filter (fun x => !p x) := by rw [h.2.1, List.take_length]
set_option maxHeartbeats 2000000 in
theorem deleteInt (S : HP) (w : World) (A : Option Addr) (c : Nat) (l : List Int) [H : SepI w (Row 3 1 (.slice A l.length c) l.length (ints l) * S)] (hn : l.length ≤ 1048576) (g : Nat) (lb : Array Value) (p : Int → Bool) (eg : Enters g)
    (hp : ∀ (v : Value) (n : Nat) (cs : List Value), ∀ x ∈ l, Pred (Row 3 1 v n cs * S) g lb (intV x) (p x)) :
    Calls Try.prog 72 #[.slice A l.length c, .func (.func g) #[] lb] w fun e w' => ∃ v, e = .returned v ∧ Post w (Row 3 1 v (l.filter (fun x => !p x)).length (ints (l.filter (fun x => !p x))) * S) w' := by
  have HPR := Hd.mk hp
  have HEG := Hd.mk eg
  have hcc : l.length ≤ c := by obtain ⟨_, _, hv, h1, _⟩ := Row.form H; injection hv with _ _ hv; omega
  obtain ⟨fl, hfl⟩ : ∃ fl, fl = l.filter (fun x => !p x) := ⟨_, rfl⟩
  have HFL := Hd.mk hfl
  rw [← hfl]
  obtain ⟨n, hn'⟩ : ∃ n, n = l.length := ⟨_, rfl⟩
  have HN := Hd.mk hn'
  rw [← hn'] at hn hcc H ⊢
  clear hp hfl
  unfold Enters at eg
  go_enter Try.func72, Try.ntmps72
  go_wp2_with fail
  rw [hn']
  have H2 : SepI w (Row 3 1 (.slice A l.length c) l.length (ints l) * S) := by rw [← hn']; exact H
  refine (indexAt _ w A c l (H := H2) (by rw [← hn']; exact hn) g lb p HEG.out (HPR.out _ _ _)).mono ?_
  rintro e w1 ⟨rr, rfl, hr, HP⟩
  rw [← hn'] at HP ⊢
  have HS1 := HP.sep
  have HE1 := HP.ext
  clear HP H2 hn'
  rcases hr with ⟨rfl, hany⟩ | ⟨k, x, rfl, hx, hpx, hany⟩
  · have hl : fl = l := by
      rw [HFL.out]
      exact List.filter_eq_self.2 fun y hy => by
        have := List.any_eq_false.1 hany y hy
        simpa using this
    subst hl
    clear hany
    go_wp2
    go_ret
    exact ⟨.slice A n c, rfl, by rw [← HN.out]; exact Post.mk' (Ent.sep (S := _) inferInstance inferInstance) inferInstance⟩
  · have hk : k < n := by rw [HN.out]; exact (List.getElem?_eq_some_iff.1 hx).1
    obtain ⟨b, rfl⟩ : ∃ b, A = some ⟨b, 0, none⟩ := Row.addr HS1 (by omega)
    have HK0 : Hd (KeptL l p k (k + 1) l) := ⟨KeptL.start hx hpx hany⟩
    have hne : ((k : Int) == -1) = false := bne_of (by omega)
    clear hx hpx hany
    go_wp2
    clear hne
    go_loopw [5, 6] (fun s5 s6 wr => ∃ (i j : Nat) (cs : List Int), s5 = .int .i64 i ∧ s6 = .int .i64 j ∧ i < j ∧ j ≤ n ∧ Hd (KeptL l p i j cs) ∧ ExtI w wr ∧ SepI wr (Row 3 1 (.slice (some ⟨b, 0, none⟩) n c) n (ints cs) * S)) (fun _ v _ => n - (intOf v).toNat)
    case atStart => exact ⟨k, k + 1, l, rfl, by go_num, by omega, by omega, HK0, inferInstance, inferInstance⟩
    case round =>
      obtain ⟨i, j, cs, rfl, rfl, hij, hjn, HK, HX, HS2⟩ := hrel
      by_cases hlt : j < n
      · obtain ⟨u, hu⟩ := get_ex (xs := l) (k := j) (by rw [← HN.out]; exact hlt)
        obtain ⟨o, ho⟩ := get_ex (xs := cs) (k := i) (by rw [HK.out.1, ← HN.out]; omega)
        have d1 : CellAt _ b j _ := Row.cellAt (e := 3) (size := 1) (g := b) (n := n) (c := c) (F := S) (ints_get (HK.out.at hu))
        have d2 : CellAt _ b i _ := Row.cellAt (e := 3) (size := 1) (g := b) (n := n) (c := c) (F := S) (ints_get ho)
        have hcall : ∀ W, SepI W (Row 3 1 (.slice (some ⟨b, 0, none⟩) n c) n (ints cs) * S) → Calls Try.prog g (#[.int .i64 u] ++ lb) W fun e w' => e = .returned (.bool (p u)) ∧ Post W (Row 3 1 (.slice (some ⟨b, 0, none⟩) n c) n (ints cs) * S) w' := HPR.out _ _ _ u (List.mem_of_getElem? hu)
        have HU := Hd.mk hu
        clear hu ho
        have hin : i < n := by omega
        cases hq : p u
        · rw [hq] at hcall
          have HQ := Hd.mk hq
          have HC := Hd.mk hcall
          clear hq hcall
          go_wp2_with ((with_reducible refine (HC.out _ inferInstance).mono ?_); rintro e w' ⟨rfl, HP'⟩; have HS3 := HP'.sep; have HE3 := HP'.ext; clear HP')
          go_roundw
          case rel => exact ⟨i + 1, j + 1, cs.set i u, by go_num, by go_num, by omega, by omega, ⟨HK.out.keep hij HU.out HQ.out⟩, inferInstance, SepI.cast inferInstance (by rw [ints_setD])⟩
          case measure => simp [intOf]; omega
        · rw [hq] at hcall
          have HQ := Hd.mk hq
          have HC := Hd.mk hcall
          clear hq hcall
          go_wp2_with ((with_reducible refine (HC.out _ inferInstance).mono ?_); rintro e w' ⟨rfl, HP'⟩; have HS3 := HP'.sep; have HE3 := HP'.ext; clear HP')
          go_roundw
          case rel => exact ⟨i, j + 1, cs, rfl, by go_num, by omega, by omega, ⟨HK.out.skip HU.out HQ.out⟩, inferInstance, inferInstance⟩
          case measure => simp [intOf]; omega
      · have : j = n := by omega
        subst this
        have hcl : ∀ ty, (Builtin.clear_ #[26] ty #[.slice (some ⟨b, i, none⟩) (j - i) (c - i)]).run Try.prog wr = .ok (.tuple #[]) (wr.setCells b i (List.replicate (j - i) (.int .i64 0))) := fun ty =>
          Lib.run_clear_slice wr _ _ ty _ Try.underlying26 zero_int rfl rfl b i _ _ (by omega) (fun t ht => by
            obtain ⟨o, ho⟩ := get_ex (xs := cs) (k := i + t) (by rw [HK.out.1, ← HN.out]; omega)
            have d1 : CellAt _ b (i + t) _ := Row.cellAt (e := 3) (size := 1) (g := b) (n := j) (c := c) (F := S) (ints_get ho)
            rw [cell_at wr _ b (i + t) _]; rfl) (fun t ht => frozen_row wr _ b (i + t) _ _ _ _ _)
        go_wp2
        go_ret
        have HS3 := Row.shrink (i := i) (SepI.setCellsRow (List.replicate (j - i) (.int .i64 0)) (ints cs) i wr HS2) (by omega)
        have HE3 : ExtI w (wr.setCells b i (List.replicate (j - i) (.int .i64 0))) := ExtI.setCells _ _ _ inferInstance
        have hfin : cs.take i = fl := by rw [HFL.out]; have := HK.out; rw [HN.out] at this; exact this.done
        have hfl : fl.length = i := by rw [← hfin, List.length_take, HK.out.1, ← HN.out]; omega
        rw [setL_take _ _ _ _ (Nat.le_refl _)] at HS3
        exact ⟨.slice (some ⟨b, 0, none⟩) i c, rfl, by
          rw [hfl, ← hfin]
          exact Post.mk' (SepI.cast HS3 (by unfold ints; rw [List.map_take])) HE3⟩
end Go.Proofs.Ytobikkdnalnllaa
