/- PanicChain, by the program and by the reference. Conditions: lengths within bounds. -/
import Derived.Test.YtobikkdnalnllaaZq
import Derived.Test.YtobikkdnalnllaaDl
import Derived.Test.YtobikkdnalnllaaSh
namespace Go.Proofs.Ytobikkdnalnllaa
open Go.RowKit SL
attribute [local go_sem] cell_blk frozen_blk lt_blk cell_at frozen_row lt_row
set_option linter.unusedVariables false
set_option linter.unusedSimpArgs false
def chainN (va la : List Int) : Nat → Int → List Int
  | 0, _ => []
  | n + 1, k => if k < 0 then [] else va.getD k.toNat 0 :: chainN va la n (la.getD k.toNat (-1))
theorem chainN_fuel (va la : List Int) (hla : ∀ (k : Nat) (x : Int), la[k]? = some x → x < (k : Int)) : ∀ (n m : Nat) (k : Int), k < (n : Int) → k < (m : Int) → chainN va la n k = chainN va la m k
  | 0, 0, k, _, _ => rfl
  | 0, m + 1, k, h, _ => by
    show [] = (if k < 0 then [] else _)
    rw [if_pos (by omega)]
  | n + 1, 0, k, _, h => by
    show (if k < 0 then [] else _) = []
    rw [if_pos (by omega)]
  | n + 1, m + 1, k, h1, h2 => by
    show (if k < 0 then [] else _) = (if k < 0 then [] else _)
    split
    · rfl
    · have : la.getD k.toNat (-1) < k := by
        rw [List.getD_eq_getElem?_getD]
        cases e : la[k.toNat]? with
        | none => show (-1 : Int) < k; omega
        | some x => have := hla _ x e; show x < k; omega
      rw [chainN_fuel va la hla n m _ (by omega) (by omega)]
def arrK (ps : List Pn) : Nat := ps.findIdx (fun p => p.fa == 3)
theorem arrK_of {ps : List Pn} {k : Nat} {p : Pn} (h : ps[k]? = some p) (hp : p.fa = 3) (hu : ∀ (j : Nat) (q : Pn), ps[j]? = some q → q.fa = 3 → j = k) : arrK ps = k := by
  obtain ⟨hk, e⟩ := List.getElem?_eq_some_iff.1 h
  unfold arrK
  rw [List.findIdx_eq hk]
  refine ⟨by rw [e, hp]; rfl, fun j hj => ?_⟩
  obtain ⟨q, hq⟩ := get_ex (xs := ps) (k := j) (by omega)
  obtain ⟨hj2, e2⟩ := List.getElem?_eq_some_iff.1 hq
  rw [e2, beq_eq_false_iff_ne]
  intro h3
  have := hu j q hq h3
  omega
def chK (ps : List Pn) (k : Int) : List Int := chainN (ps.map (fun p => p.va)) (ps.map (fun p => p.la)) (k + 1).toNat k
theorem chK_neg (ps : List Pn) : chK ps (-1) = [] := rfl
theorem chK_at {ps : List Pn} {k : Nat} {p : Pn} (h : ps[k]? = some p) (hla : ∀ (k : Nat) (p : Pn), ps[k]? = some p → -1 ≤ p.la ∧ p.la < (k : Int)) : chK ps (k : Int) = p.va :: chK ps p.la := by
  have hl : ∀ (k : Nat) (x : Int), (ps.map (fun p => p.la))[k]? = some x → x < (k : Int) := fun k x hx => by
    rw [List.getElem?_map] at hx
    obtain ⟨q, hq, rfl⟩ := Option.map_eq_some_iff.1 hx
    exact (hla k q hq).2
  have hb := hla k p h
  unfold chK
  rw [show ((k : Int) + 1).toNat = k + 1 from by omega]
  show (if (k : Int) < 0 then [] else (ps.map (fun p => p.va)).getD (k : Int).toNat 0 :: chainN _ _ k ((ps.map (fun p => p.la)).getD (k : Int).toNat (-1))) = _
  rw [if_neg (by omega), Int.toNat_natCast, List.getD_eq_getElem?_getD, List.getElem?_map, h, List.getD_eq_getElem?_getD, List.getElem?_map, h]
  show p.va :: chainN _ _ k p.la = _
  rw [chainN_fuel _ _ hl k (p.la + 1).toNat p.la (by omega) (by omega)]
def chainA (ps : List Pn) : List Int := (chK ps (arrK ps : Nat)).reverse
theorem chK_len (ps : List Pn) (hla : ∀ (k : Nat) (p : Pn), ps[k]? = some p → -1 ≤ p.la ∧ p.la < (k : Int)) : ∀ n : Nat, n ≤ ps.length → ∀ k : Int, -1 ≤ k → k < (n : Int) → (chK ps k).length ≤ n
  | 0, _, k, h1, h2 => by rw [show k = -1 from by omega, chK_neg]; exact Nat.le_refl _
  | n + 1, hn, k, h1, h2 => by
    by_cases h0 : k = -1
    · rw [h0, chK_neg]; exact Nat.zero_le _
    · obtain ⟨j, rfl⟩ : ∃ j : Nat, k = (j : Int) := ⟨k.toNat, by omega⟩
      obtain ⟨p, hp⟩ := get_ex (xs := ps) (k := j) (by omega)
      rw [chK_at hp hla, List.length_cons]
      have := hla j p hp
      have := chK_len ps hla n (by omega) p.la (by omega) (by omega)
      omega
def pkB (L : List (List St)) (fn arg fuel : Int) : Bool := askB L fn arg fuel && ((ranM L fn arg fuel.toNat).kind == 2)
theorem reverseI (S : HP) (w : World) (g c : Nat) (l : List Int) (H : SepI w (Row 3 1 (.slice (some ⟨g, 0, none⟩) l.length c) l.length (ints l) * S)) (hn : l.length ≤ 1048576) :
    Calls Try.prog 83 #[.slice (some ⟨g, 0, none⟩) l.length c] w fun e w' => e = .returned (.tuple #[]) ∧ Post w (Row 3 1 (.slice (some ⟨g, 0, none⟩) l.length c) l.length (ints l.reverse) * S) w' := by
  have hH : ∀ j, j < l.length → w.cell? ⟨g, 0 + j, none⟩ = some (.int .i64 (l.getD j 0)) ∧ w.frozen? ⟨g, 0 + j, none⟩ = false := fun j hj => by
    have d1 : CellAt (Row 3 1 (.slice (some ⟨g, 0, none⟩) l.length c) l.length (ints l) * S) g j (.int .i64 (l.getD j 0)) := Row.cellAt (by rw [ints_get (List.getElem?_eq_getElem hj), List.getD_eq_getElem?_getD, List.getElem?_eq_getElem hj]; rfl)
    rw [Nat.zero_add]
    exact ⟨cell_at w _ g j _, frozen_row w _ g j _ _ _ _ _⟩
  refine (Try.slices_Reverse_int_cells g 0 l.length c l w (Nat.le_refl _) (by omega) (fun j hj => (hH j hj).1) (fun j hj => (hH j hj).2)).mono ?_
  rintro e w' ⟨rfl, q, rfl⟩
  refine ⟨rfl, ?_⟩
  have HS := SepI.setCellsRow (l.reverse.map (Value.int .i64)) (ints l) 0 (w.drewN q) (SepI.i_drewN w _ q)
  rw [setL_all (by simp [ints])] at HS
  rw [List.take_length]
  exact Post.mk' HS (ExtI.setCells _ _ _ inferInstance)
set_option maxRecDepth 100000 in
set_option maxHeartbeats 8000000 in
theorem indexPn (S : HP) (w : World) [H : SepI w S] (A : Option Addr) (c : Nat) (l : List Pv) [r : Rd S A (cPvs l)] (hn : l.length ≤ 1048576) (g : Nat) (p : Pn → Bool) (k : Nat) (hk : k < l.length)
    (hu : ∀ y ∈ l, ∃ Au cu, y.u = .slice Au y.p.un.length cu) (h0 : ∀ (j : Nat) (y : Pv), l[j]? = some y → j ≤ k → p y.p = decide (j = k)) (eg : Enters g)
    (hp : ∀ (S0 : HP) (y : Pv) (W : World), SepI W S0 → Calls Try.prog g #[.agg #[.int .i64 y.p.ca, .int .i64 y.p.fn, .int .i64 y.p.va, .int .i64 y.p.de, .int .i64 y.p.fa, .int .i64 y.p.by_, .int .i64 y.p.la, .bool y.p.ag, y.u]] W fun e w' => e = .returned (.bool (p y.p)) ∧ Post W S0 w') :
    Calls Try.prog 81 #[.slice A l.length c, .func (.func g) #[] #[]] w fun e w' => e = .returned (.int .i64 (k : Int)) ∧ Post w S w' := by
  obtain ⟨n, hn'⟩ : ∃ n, n = l.length := ⟨_, rfl⟩
  have HN := Hd.mk hn'
  have HU := Hd.mk hu
  have HZ := Hd.mk h0
  have HC0 := Hd.mk hp
  rw [← hn'] at hn hk ⊢
  clear hn' hu h0 hp
  unfold Enters at eg
  go_enter Try.func81, Try.ntmps81
  go_wp2
  go_loopw [8] (fun i wr => ∃ j : Nat, j ≤ k ∧ i = .int .i64 j ∧ SepI wr S ∧ ExtI w wr) (fun i _ => n - (intOf i).toNat)
  case atStart => exact ⟨0, Nat.zero_le _, rfl, inferInstance, inferInstance⟩
  case round =>
    obtain ⟨j, hj, rfl, HS, HE⟩ := hrel
    have hjn : j < n := by omega
    obtain ⟨y, hy⟩ := get_ex (xs := l) (k := j) (by rw [← HN.out]; exact hjn)
    obtain ⟨b, off, rfl⟩ := r.addr H (j := j) (by rw [cPvs_len, ← HN.out]; omega)
    obtain ⟨Au, cu, hyu⟩ := HU.out y (List.mem_of_getElem? hy)
    have hpy := HZ.out j y hy hj
    have hcall := fun S0 W HW => HC0.out S0 y W HW
    obtain ⟨yp, yu⟩ := y
    simp only at hyu hpy hcall
    subst hyu
    have e0 := r.cell (cPvs_at hy).1
    have e1 := r.cell (cPvs_at hy).2.1
    have e2 := r.cell (cPvs_at hy).2.2.1
    have e3 := r.cell (cPvs_at hy).2.2.2.1
    have e4 := r.cell (cPvs_at hy).2.2.2.2.1
    have e5 := r.cell (cPvs_at hy).2.2.2.2.2.1
    have e6 := r.cell (cPvs_at hy).2.2.2.2.2.2.1
    have e7 := r.cell (cPvs_at hy).2.2.2.2.2.2.2.1
    have e8 := r.cell (cPvs_at hy).2.2.2.2.2.2.2.2
    simp only at e0 e1 e2 e3 e4 e5 e6 e7 e8
    clear hy
    by_cases hjk : j = k
    · subst hjk
      rw [decide_eq_true rfl] at hpy
      rw [hpy] at hcall
      have HC := Hd.mk hcall
      clear hpy hcall
      go_wp2_with ((with_reducible refine (HC.out _ _ inferInstance).mono ?_); rintro e w' ⟨rfl, HP'⟩; have HS2 := HP'.sep; have HE2 := HP'.ext; clear HP')
      go_ret
      exact ⟨rfl, Post.mk' inferInstance inferInstance⟩
    · rw [decide_eq_false hjk] at hpy
      rw [hpy] at hcall
      have HC := Hd.mk hcall
      clear hpy hcall
      go_wp2_with ((with_reducible refine (HC.out _ _ inferInstance).mono ?_); rintro e w' ⟨rfl, HP'⟩; have HS2 := HP'.sep; have HE2 := HP'.ext; clear HP')
      go_roundw
      case rel => exact ⟨j + 1, by omega, by go_num, inferInstance, inferInstance⟩
      case measure => (simp [intOf]; omega)
theorem enters_pc1 : Enters 82 := fun args w => by go_simp
set_option maxRecDepth 100000 in
set_option maxHeartbeats 8000000 in
theorem impl_PanicChain1 (S : HP) (w : World) [H : SepI w S] (y : Pv) :
    Calls Try.prog 82 #[.agg #[.int .i64 y.p.ca, .int .i64 y.p.fn, .int .i64 y.p.va, .int .i64 y.p.de, .int .i64 y.p.fa, .int .i64 y.p.by_, .int .i64 y.p.la, .bool y.p.ag, y.u]] w fun e w' => e = .returned (.bool (y.p.fa == 3)) ∧ Post w S w' := by
  obtain ⟨⟨a1, a2, a3, a4, a5, a6, a7, a8, a9⟩, u⟩ := y
  obtain ⟨v, hv⟩ : ∃ v, (a5 == 3) = v := ⟨_, rfl⟩
  show Calls _ _ _ _ fun e w' => e = .returned (.bool (a5 == 3)) ∧ _
  rw [hv]
  go_enter Try.func82, Try.ntmps82
  go_wp2
  go_ret
  exact ⟨rfl, Post.mk' (Ent.sep (S := _) inferInstance inferInstance) inferInstance⟩
set_option maxRecDepth 100000 in
set_option maxHeartbeats 8000000 in
theorem impl_PanicChainN (S : HP) (w : World) [H : SepI w S] (A : Option Addr) (c : Nat) (bs : List Bd) [r : Rd S A (cBds bs)] [B : Bodies S bs] (fn arg fuel : Int) (hv : askB (bs.map (·.l)) fn arg fuel = false) :
    Calls Try.prog 50 #[.agg #[.slice A bs.length c], .int .i64 fn, .int .i64 arg, .int .i64 fuel] w (IntsOk S [] false w) := by
  have hbn := B.n
  have HV := Hd.mk hv
  clear hv
  have hnot : ∀ (x : Bool) (w : World), (Op.unary .not (.bool x)).run Try.prog w = .ok (.bool (!x)) w := fun _ _ => rfl
  go_enter Try.func50, Try.ntmps50
  go_wp2_with fail
  refine (impl_ranN _ _ A c bs fn arg fuel HV.out).mono ?_
  rintro e w1 ⟨rfl, HP⟩
  have HS1 := HP.sep
  have HE1 := HP.ext
  clear HP
  go_wp2
  go_ret2
  exact IntsOk.nil (v := .slice none 0 0) (Post.mk' (Ent.sep (S := _) inferInstance (Row.nil0 HS1 3 1)) inferInstance)
set_option maxRecDepth 100000 in
set_option maxHeartbeats 8000000 in
theorem impl_PanicChainO (S : HP) (w : World) [H : SepI w S] (A : Option Addr) (c : Nat) (bs : List Bd) [r : Rd S A (cBds bs)] [B : Bodies S bs] (fn arg : Int) (fu : Nat) (L : List (List St)) (hbs : bs.map (·.l) = L) (hv : askB L fn arg fu = true) (hk : (ranM L fn arg fu).kind ≠ 2) :
    Calls Try.prog 50 #[.agg #[.slice A bs.length c], .int .i64 fn, .int .i64 arg, .int .i64 fu] w (IntsOk S [] false w) := by
  have hbn := B.n
  have HV := Hd.mk hv
  have HB := Hd.mk hbs
  have HF := Hd.mk (factsB hv)
  clear hv hbs
  obtain ⟨R, hR⟩ : ∃ R, ranM L fn arg fu = R := ⟨_, rfl⟩
  have HR := Hd.mk hR
  rw [hR] at HF hk
  clear hR
  obtain ⟨kd, hkd⟩ : ∃ kd, R.kind = kd := ⟨_, rfl⟩
  rw [hkd] at hk
  have hkb : (kd == 2) = false := beq_eq_false_iff_ne.2 hk
  have hkc : (kd != 2) = true := bne_iff_ne.2 hk
  clear hk
  have hnot : ∀ (x : Bool) (w : World), (Op.unary .not (.bool x)).run Try.prog w = .ok (.bool (!x)) w := fun _ _ => rfl
  go_enter Try.func50, Try.ntmps50
  go_wp2_with fail
  refine (impl_ranX _ _ A c bs fn arg fu L HB.out HV.out).mono ?_
  rw [HR.out]
  rintro e w1 ⟨gm, ⟨A1, c1, A2, c2, A3, c3, A4, c4, A5, c5, bm, ps⟩, S0, rfl, hps, M, HP⟩
  have i1 := M.blk
  have rT := M.tr
  have rO := M.ow
  have rC := M.ca
  have rP := M.pa
  have rR := M.rc
  dsimp only at hps i1 rT rO rC rP rR
  have HPS := Hd.mk hps
  have HM1 := Hd.mk M
  clear hps M
  have HS1 := HP.sep
  have HE1 := HP.ext
  clear HP
  rw [hkd] at i1
  clear hkd
  go_wp2
  go_ret2
  exact IntsOk.nil (v := .slice none 0 0) (Post.mk' (Ent.sep (S := _) inferInstance (HM1.out.out (Row.nil0 HS1 3 1))) inferInstance)
set_option maxRecDepth 100000 in
set_option maxHeartbeats 8000000 in
theorem impl_PanicChainV (S : HP) (w : World) [H : SepI w S] (A : Option Addr) (c : Nat) (bs : List Bd) [r : Rd S A (cBds bs)] [B : Bodies S bs] (fn arg : Int) (fu : Nat) (L : List (List St)) (hbs : bs.map (·.l) = L) (hv : askB L fn arg fu = true) (hk : (ranM L fn arg fu).kind = 2) :
    Calls Try.prog 50 #[.agg #[.slice A bs.length c], .int .i64 fn, .int .i64 arg, .int .i64 fu] w (IntsOk S (chainA (ranM L fn arg fu).m.panics) true w) := by
  have hbn := B.n
  have HV := Hd.mk hv
  have HB := Hd.mk hbs
  have HF := Hd.mk (factsB hv)
  clear hv hbs
  obtain ⟨R, hR⟩ : ∃ R, ranM L fn arg fu = R := ⟨_, rfl⟩
  have HR := Hd.mk hR
  rw [hR] at HF hk ⊢
  clear hR
  obtain ⟨k0, p0, hg0, hf0, hu0⟩ := HF.out.arr hk
  have hk0l : k0 < R.m.panics.length := (List.getElem?_eq_some_iff.1 hg0).1
  have hak : arrK R.m.panics = k0 := arrK_of hg0 hf0 hu0
  obtain ⟨m, hm⟩ : ∃ m, m = R.m.panics.length := ⟨_, rfl⟩
  have HM := Hd.mk hm
  have hml : m ≤ 1000 := by have h1 := HF.out.bl.p; have h2 := HF.out.ts; omega
  obtain ⟨CH, hCH⟩ : ∃ CH, CH = chK R.m.panics := ⟨_, rfl⟩
  have HCN : Hd (CH (-1) = []) := ⟨by rw [hCH]; exact chK_neg _⟩
  have HCA : Hd (∀ (k : Nat) (p : Pn), R.m.panics[k]? = some p → CH (k : Int) = p.va :: CH p.la) := ⟨fun k p h => by rw [hCH]; exact chK_at h HF.out.la⟩
  have HLA : Hd (∀ (k : Nat) (p : Pn), R.m.panics[k]? = some p → -1 ≤ p.la ∧ p.la < (k : Int)) := ⟨HF.out.la⟩
  have HTOT : Hd (chainA R.m.panics = (CH (k0 : Int)).reverse) := ⟨by unfold chainA; rw [hak, hCH]⟩
  have hk0m : k0 < m := by omega
  rw [HTOT.out]
  obtain ⟨ans, hans⟩ : ∃ ans, (CH (k0 : Int)).reverse = ans := ⟨_, rfl⟩
  rw [hans]
  have HANS := Hd.mk hans
  clear hans
  have HFI : Hd (∀ (j : Nat) (p : Pn), R.m.panics[j]? = some p → j ≤ k0 → (p.fa == 3) = decide (j = k0)) := ⟨fun j p hj hle => by
    by_cases e : j = k0
    · subst e
      rw [hg0] at hj
      injection hj with hj
      subst hj
      rw [hf0, decide_eq_true rfl]; rfl
    · rw [decide_eq_false e, beq_eq_false_iff_ne]
      exact fun h3 => e (hu0 j p hj h3)⟩
  clear hCH hg0 hu0 hak hk0l
  have hnot : ∀ (x : Bool) (w : World), (Op.unary .not (.bool x)).run Try.prog w = .ok (.bool (!x)) w := fun _ _ => rfl
  go_enter Try.func50, Try.ntmps50
  go_wp2_with fail
  refine (impl_ranX _ _ A c bs fn arg fu L HB.out HV.out).mono ?_
  rw [HR.out]
  rintro e w1 ⟨gm, ⟨A1, c1, A2, c2, A3, c3, A4, c4, A5, c5, bm, ps⟩, S0, rfl, hps, M, HP⟩
  have i1 := M.blk
  have rT := M.tr
  have rO := M.ow
  have rC := M.ca
  have rP := M.pa
  have rR := M.rc
  dsimp only at hps i1 rT rO rC rP rR
  have HPS := Hd.mk hps
  have HM1 := Hd.mk M
  clear hps M
  have HS1 := HP.sep
  have HE1 := HP.ext
  clear HP
  have hpl : ps.length = m := by rw [hm, ← HPS.out, List.length_map]
  rw [hk, hpl] at i1
  have HPL := Hd.mk hpl
  have HIX : Hd (∀ (w : World) (S9 : HP), SepI w S9 → (∀ w', SepI w' S9 → SepI w' S0) → Rd S9 A4 (cPvs ps) → Calls Try.prog 81 #[.slice A4 m c4, .func (.func 82) #[] #[]] w fun e w' => e = .returned (.int .i64 (k0 : Int)) ∧ Post w S9 w') := ⟨fun w S9 h9 hin r9 => by
    rw [← hpl]
    exact indexPn S9 w A4 c4 ps (by omega) _ (fun p => p.fa == 3) k0 (by omega) (fun y hy => HM1.out.us (hin w h9) y hy) (fun j y hy hle => HFI.out j y.p (by rw [← HPS.out, List.getElem?_map, hy]; rfl) hle) enters_pc1 (fun S0 y W HW => @impl_PanicChain1 S0 W HW y)⟩
  clear hk hpl hm
  obtain ⟨bf, hbf⟩ : ∃ bf, bf = w1.heap.size := ⟨_, rfl⟩
  have hlit : SepI (w1.alloc (.cells #[] 3 (0, 0))) (Row 3 1 (.slice (some ⟨w1.heap.size, 0, none⟩) 0 0) 0 [] * S0) := Row.lit0 (SepI.i_alloc w1 (.cells #[] 3 (0, 0)) S0 _)
  have HBF := Hd.mk hbf
  clear hbf
  go_wp2_with fail
  refine (HIX.out _ _ hlit (fun w' h => h.right) inferInstance).mono ?_
  rintro e w2 ⟨rfl, HP⟩
  have HS2 := HP.sep
  have HE2 := HP.ext
  clear HP
  rw [← HBF.out] at hlit HS2 ⊢
  clear hlit
  go_wp2
  go_loopw [12, 13] (fun v12 v13 wr => ∃ (k : Int) (Ol : List Int) (vv : Value), -1 ≤ k ∧ k < m ∧ (Ol.length : Int) + k < m ∧ v13 = .int .i64 k ∧ v12 = vv ∧ Hd (Ol ++ CH k = CH (k0 : Int)) ∧ ExtI w wr ∧ SepI wr (Row 3 1 vv Ol.length (ints Ol) * S0)) (fun _ v _ => (intOf v + 1).toNat)
  case atStart => exact ⟨k0, [], .slice (some ⟨bf, 0, none⟩) 0 0, by omega, by omega, by simp; omega, rfl, rfl, ⟨rfl⟩, inferInstance, HS2⟩
  case round =>
    obtain ⟨k, Ol, vv, hk1, hk2, hk3, rfl, rfl, HT, HX, HS3⟩ := hrel
    by_cases hlt : 0 ≤ k
    · obtain ⟨i, rfl⟩ : ∃ i : Nat, k = (i : Int) := ⟨k.toNat, by omega⟩
      obtain ⟨y, hs1⟩ := get_ex (xs := ps) (k := i) (by rw [HPL.out]; omega)
      obtain ⟨bp, op, rfl⟩ := rP.addr HS1 (j := i) (by rw [cPvs_len, HPL.out]; omega)
      have hs2 : R.m.panics[i]? = some y.p := by rw [← HPS.out, List.getElem?_map, hs1]; rfl
      have e2 := rP.cell (cPvs_at hs1).2.2.1
      have e6 := rP.cell (cPvs_at hs1).2.2.2.2.2.2.1
      have hla := HLA.out i _ hs2
      have HCY := Hd.mk (HCA.out i _ hs2)
      obtain ⟨⟨yca, yfn, yva, yde, yfa, yby, yla, yag, yun⟩, yu⟩ := y
      simp only at e2 e6 hla HCY
      obtain ⟨A0, c0, rfl, hc0, hc1⟩ := Row.form HS3
      have hol : Ol.length ≤ 1000 := by omega
      have HOO : Hd (ints Ol ++ #[.int .i64 yva].toList = ints (Ol ++ [yva])) := ⟨by rw [ints_append]; rfl⟩
      have HLL : Hd (Ol.length + 1 = (Ol ++ [yva]).length) := ⟨by simp⟩
      have HT2 : Hd ((Ol ++ [yva]) ++ CH yla = CH (k0 : Int)) := ⟨by rw [← HT.out, HCY.out]; simp⟩
      have hl2 : ((Ol ++ [yva]).length : Int) + yla < m := by rw [← HLL.out]; omega
      have HL2 := Hd.mk hl2
      clear hs1 hs2 hl2
      go_wp2_with (at_builtin; go_must (refine ev_append (v := .slice A0 Ol.length c0) rfl _ _ 26 rfl rfl 8 _ Try.underlying26 info_int rfl (by decide) (by decide) (wr.heap.size) 1 1 rfl rfl (by simp [Value.oneCell']) (by omega) ?_); intro v1 w4 HS4 HE4; replace HS4 := Row.as HS4 HLL.out HOO.out)
      go_roundw
      case rel => exact ⟨yla, Ol ++ [yva], v1, by omega, by omega, HL2.out, rfl, rfl, HT2, inferInstance, Ent.sep (S := _) (T := Row 3 1 v1 (Ol ++ [yva]).length (ints (Ol ++ [yva])) * S0) inferInstance HS4⟩
      case measure => (simp [intOf]; try omega)
    · have : k = -1 := by omega
      subst this
      have hol : Ol = CH (k0 : Int) := by rw [← HT.out, HCN.out, List.append_nil]
      have hp0 : 0 < Ol.length := by
        obtain ⟨y, hs1⟩ := get_ex (xs := R.m.panics) (k := k0) (by rw [← HM.out]; omega)
        rw [hol, HCA.out k0 y hs1]; simp
      obtain ⟨A0, c0, rfl, hc0, hc1⟩ := Row.form HS3
      obtain ⟨gr, rfl⟩ := Row.addr HS3 hp0
      have HOE : Hd (Ol.reverse = (CH (k0 : Int)).reverse) := ⟨by rw [hol]⟩
      have hol2 : Ol.length ≤ 1000 := by omega
      clear hol hk2 hk3
      go_wp2_with fail
      refine (reverseI _ _ gr c0 Ol HS3 (by omega)).mono ?_
      rintro e w5 ⟨rfl, HP⟩
      have HS5 := HP.sep
      have HE5 := HP.ext
      clear HP
      rw [show Ol.length = ans.length from by rw [← HANS.out, ← HOE.out, List.length_reverse], HOE.out, HANS.out] at HS5
      rw [show Ol.length = ans.length from by rw [← HANS.out, ← HOE.out, List.length_reverse]]
      go_wp2
      go_ret2
      exact IntsOk.of (v := .slice (some ⟨gr, 0, none⟩) ans.length c0) (Post.mk' (Ent.sep (S := _) (T := Row 3 1 (.slice (some ⟨gr, 0, none⟩) ans.length c0) ans.length (ints ans) * S) inferInstance (HM1.out.out HS5)) inferInstance)
theorem SL.ev_valGZ {P : Program} {ops : Array Oper} {rest : List Oper} {o : Oper} {a : Act} {Q : Exit → Act → World → Prop} {w : World} (hw : Region.wanted o (yielded ops a.tmps) = true) (v : Value) (h : (execOp a.eval o).run P w = .ok (.value v) w) (k : wpList P ops Q rest (a.put o.dst v) w) : wpList P ops Q (o :: rest) a w := by
  unfold wpList
  rw [if_pos hw]
  left
  unfold Oper.wp
  rw [h]
  exact k
theorem Row.lit1Z {w : World} {g : Nat} {x : Value} {e : TypeId} {F : HP} (H : SepI w (pts g (.cells #[x] e (0, 0)) * F)) : SepI w (Row e 1 (.slice (some ⟨g, 0, none⟩) 1 1) 1 [x] * F) := Row.close (n := 1) (cap := 1) (size := 1) H (Nat.le_refl _) (by unfold maxLen; omega) rfl
set_option maxRecDepth 100000 in
set_option maxHeartbeats 8000000 in
theorem spec_PanicChainN (S : HP) (w : World) [H : SepI w S] (A : Option Addr) (c : Nat) (bs : List Bd) [r : Rd S A (cBds bs)] [B : Bodies S bs] (fn arg fuel : Int) (hv : askB (bs.map (·.l)) fn arg fuel = false) :
    Calls Try.prog 49 #[.agg #[.slice A bs.length c], .int .i64 fn, .int .i64 arg, .int .i64 fuel] w (IntsOk S [] false w) := by
  have hbn := B.n
  have HV := Hd.mk hv
  clear hv
  have hnot : ∀ (x : Bool) (w : World), (Op.unary .not (.bool x)).run Try.prog w = .ok (.bool (!x)) w := fun _ _ => rfl
  go_enter Try.func49, Try.ntmps49
  go_wp2_with fail
  refine (spec_l2Ask _ _ A c bs fn arg fuel _ HV.out).mono ?_
  rintro e w1 ⟨rfl, HP⟩
  have HS1 := HP.sep
  have HE1 := HP.ext
  clear HP
  go_wp2
  go_ret2
  exact IntsOk.nil (v := .slice (some ⟨w.heap.size + 1, 0, none⟩) 0 0) (Post.mk' (Ent.sep (S := _) inferInstance (Row.lit0 (size := 1) HS1)) inferInstance)
set_option maxRecDepth 100000 in
set_option maxHeartbeats 8000000 in
theorem spec_PanicChainO (S : HP) (w : World) [H : SepI w S] (A : Option Addr) (c : Nat) (bs : List Bd) [r : Rd S A (cBds bs)] [B : Bodies S bs] (hnn : NoneNil bs) (fn arg : Int) (fu : Nat) (L : List (List St)) (hbs : bs.map (·.l) = L) (hv : askB L fn arg fu = true) (hk : (ranM L fn arg fu).kind ≠ 2) :
    Calls Try.prog 49 #[.agg #[.slice A bs.length c], .int .i64 fn, .int .i64 arg, .int .i64 fu] w (IntsOk S [] false w) := by
  have HNN := Hd.mk hnn
  have HV2 : Hd (askB (bs.map (·.l)) fn arg fu = true) := ⟨by rw [hbs]; exact hv⟩
  clear hnn
  have hbn := B.n
  have HV := Hd.mk hv
  have HB := Hd.mk hbs
  have HF := Hd.mk (factsB hv)
  clear hv hbs
  obtain ⟨R, hR⟩ : ∃ R, ranM L fn arg fu = R := ⟨_, rfl⟩
  have HR := Hd.mk hR
  rw [hR] at HF hk
  clear hR
  obtain ⟨kd, hkd⟩ : ∃ kd, R.kind = kd := ⟨_, rfl⟩
  have HKD := Hd.mk hkd
  rw [hkd] at hk
  have hkb : (kd == 2) = false := beq_eq_false_iff_ne.2 hk
  have hkc : (kd != 2) = true := bne_iff_ne.2 hk
  clear hk hkd
  have hnot : ∀ (x : Bool) (w : World), (Op.unary .not (.bool x)).run Try.prog w = .ok (.bool (!x)) w := fun _ _ => rfl
  go_enter Try.func49, Try.ntmps49
  go_wp2_with fail
  refine (spec_l2Ask _ _ A c bs fn arg fu _ HV2.out).mono ?_
  rintro e w1 ⟨rfl, HP⟩
  have HS1 := HP.sep
  have HE1 := HP.ext
  clear HP
  go_wp2_with fail
  refine (spec_runX _ _ A c bs HNN.out fn arg fu L HB.out HV.out).mono ?_
  rw [HR.out]
  rintro e w2 ⟨At, ct, rfl, HP⟩
  have HS2 := HP.sep
  have HE2 := HP.ext
  clear HP
  rw [HKD.out]
  try simp only []
  rename_i hK
  refine hK _ _ ?_
  clear hK
  refine SL.ev_valGZ (by rfl) _ rfl ?_
  go_wp2
  go_ret2
  exact IntsOk.nil (v := .slice (some ⟨w.heap.size + 1, 0, none⟩) 0 0) (Post.mk' (Ent.sep (S := _) inferInstance (Row.lit0 (size := 1) HS2.right)) inferInstance)
set_option maxRecDepth 100000 in
set_option maxHeartbeats 8000000 in
theorem spec_PanicChainV (S : HP) (w : World) [H : SepI w S] (A : Option Addr) (c : Nat) (bs : List Bd) [r : Rd S A (cBds bs)] [B : Bodies S bs] (hnn : NoneNil bs) (fn arg : Int) (fu : Nat) (L : List (List St)) (hbs : bs.map (·.l) = L) (hv : askB L fn arg fu = true) (hk : (ranM L fn arg fu).kind = 2) :
    Calls Try.prog 49 #[.agg #[.slice A bs.length c], .int .i64 fn, .int .i64 arg, .int .i64 fu] w (IntsOk S (chainA (ranM L fn arg fu).m.panics) true w) := by
  have HNN := Hd.mk hnn
  have HV2 : Hd (askB (bs.map (·.l)) fn arg fu = true) := ⟨by rw [hbs]; exact hv⟩
  clear hnn
  have hbn := B.n
  have HV := Hd.mk hv
  have HB := Hd.mk hbs
  have HF := Hd.mk (factsB hv)
  clear hv hbs
  obtain ⟨R, hR⟩ : ∃ R, ranM L fn arg fu = R := ⟨_, rfl⟩
  have HR := Hd.mk hR
  rw [hR] at HF hk ⊢
  clear hR
  obtain ⟨⟨ca, pn, dp, un, rv, rp, bf⟩, hq, f1, f2, f3, f4, f5, f6⟩ := facts4 HF.out
  simp only at f1 f2 f3 f4 f5 f6
  have HQ := Hd.mk hq
  obtain ⟨k0, p0, hg0, hf0, hu0⟩ := HF.out.arr hk
  have hk0l : k0 < R.m.panics.length := (List.getElem?_eq_some_iff.1 hg0).1
  have hak : arrK R.m.panics = k0 := arrK_of hg0 hf0 hu0
  obtain ⟨m, hm⟩ : ∃ m, m = R.m.panics.length := ⟨_, rfl⟩
  have HM := Hd.mk hm
  have hml : m ≤ 1000 := by have h1 := HF.out.bl.p; have h2 := HF.out.ts; omega
  obtain ⟨CH, hCH⟩ : ∃ CH, CH = chK R.m.panics := ⟨_, rfl⟩
  have HCN : Hd (CH (-1) = []) := ⟨by rw [hCH]; exact chK_neg _⟩
  have HCA : Hd (∀ (k : Nat) (p : Pn), R.m.panics[k]? = some p → CH (k : Int) = p.va :: CH p.la) := ⟨fun k p h => by rw [hCH]; exact chK_at h HF.out.la⟩
  have HLA : Hd (∀ (k : Nat) (p : Pn), R.m.panics[k]? = some p → -1 ≤ p.la ∧ p.la < (k : Int)) := ⟨HF.out.la⟩
  have HTOT : Hd (chainA R.m.panics = (CH (k0 : Int)).reverse) := ⟨by unfold chainA; rw [hak, hCH]⟩
  have hk0m : k0 < m := by omega
  rw [HTOT.out]
  have HK2 : Hd (R.kind = 2) := ⟨hk⟩
  have HPL : Hd (pn.length = m) := ⟨by rw [f1, hm]; unfold fatA; exact List.length_map ..⟩
  have HBL : Hd (bf.length = m) := ⟨by rw [f6, hm]; exact List.length_map ..⟩
  have HAT : Hd (∀ (i : Nat), i < m → ∃ p, R.m.panics[i]? = some p ∧ pn[i]? = some (p.fn, p.va, p.fa) ∧ bf[i]? = some p.la) := ⟨fun i hi => by
    obtain ⟨p, hp⟩ := get_ex (xs := R.m.panics) (k := i) (by omega)
    refine ⟨p, hp, ?_, ?_⟩
    · rw [f1]; unfold fatA; rw [List.getElem?_map, hp]; rfl
    · rw [f6, List.getElem?_map, hp]; rfl⟩
  have HF0 : Hd (∀ (p : Pn), R.m.panics[k0]? = some p → p.fa = 3) := ⟨fun p hp => by rw [hg0] at hp; injection hp with hp; subst hp; exact hf0⟩
  have HF1 : Hd (∀ (i : Nat) (p : Pn), R.m.panics[i]? = some p → k0 < i → p.fa ≠ 3) := ⟨fun i p hp hlt h3 => by have := hu0 i p hp h3; omega⟩
  have hwl : IntKind.i64.wrap ((m : Int) - 1) = (m : Int) - 1 := IntWalk.i64_in _ (by omega)
  clear hq f1 f2 f3 f4 f5 f6 hCH hg0 hu0 hak hk0l hm hf0 hk
  have hnot : ∀ (x : Bool) (w : World), (Op.unary .not (.bool x)).run Try.prog w = .ok (.bool (!x)) w := fun _ _ => rfl
  go_enter Try.func49, Try.ntmps49
  go_wp2_with fail
  refine (spec_l2Ask _ _ A c bs fn arg fu _ HV2.out).mono ?_
  rintro e w1 ⟨rfl, HP⟩
  have HS1 := HP.sep
  have HE1 := HP.ext
  clear HP
  go_wp2_with fail
  refine (spec_runX _ _ A c bs HNN.out fn arg fu L HB.out HV.out).mono ?_
  rw [HR.out]
  rintro e w2 ⟨At, ct, rfl, HP⟩
  have HS2 := HP.sep
  have HE2 := HP.ext
  clear HP
  rw [HK2.out]
  try simp only []
  rename_i hK
  refine hK _ _ ?_
  clear hK
  refine SL.ev_valGZ (by rfl) _ rfl ?_
  go_wp2_with fail
  refine (spec_l4OfX _ _ A c bs HNN.out fn arg fu L HB.out HV.out _ (by rw [HR.out]; exact HQ.out)).mono ?_
  rintro e w3 ⟨⟨A1, c1, A2, c2, A3, c3, A4, c4, A5, c5, A6, c6, A7, c7, us⟩, hu, rfl, HP⟩
  have hval : r4V ⟨A1, c1, A2, c2, A3, c3, A4, c4, A5, c5, A6, c6, A7, c7, us⟩ ⟨ca, pn, dp, un, rv, rp, bf⟩ = .agg #[Value.slice A1 ca.length c1, .slice A2 pn.length c2, .slice A3 dp.length c3, .slice A4 us.length c4, .slice A5 rv.length c5, .slice A6 rp.length c6, .slice A7 bf.length c7] := rfl
  rw [hval]
  clear hval
  simp only at hu
  have HU := Hd.mk hu
  clear hu
  have HS3 := HP.sep
  have HE3 := HP.ext
  clear HP
  unfold R4H at HS3
  simp only at HS3
  rw [HPL.out, HBL.out] at HS3
  rw [HPL.out, HBL.out]
  obtain ⟨S2, HS4, rP, rB, hout⟩ : ∃ S2 : HP, SepI w3 (Row 3 1 (.slice (some ⟨w.heap.size + 1, 0, none⟩) 0 0) 0 [] * S2) ∧ Rd S2 A2 (c3s pn) ∧ Rd S2 A7 (ints bf) ∧ (∀ (w : World) (X : HP), SepI w (X * S2) → SepI w (X * S)) := ⟨_, Row.lit0 (size := 1) (SepI.pick (A := pts (w.heap.size + 1) (.cells #[] 3 (0, 0))) HS3 inferInstance), inferInstance, inferInstance, fun w X H => Ent.sep (S := _) inferInstance H⟩
  have HOUT := Hd.mk hout
  clear hout HS3
  go_wp2
  go_loopw [12] (fun v12 wr => ∃ (i : Nat), k0 ≤ i ∧ i < m ∧ v12 = .int .i64 i ∧ ExtI w wr ∧ SepI wr (Row 3 1 (.slice (some ⟨w.heap.size + 1, 0, none⟩) 0 0) 0 [] * (pts w3.heap.size (.cells #[Value.slice A1 ca.length c1, .slice A2 m c2, .slice A3 dp.length c3, .slice A4 us.length c4, .slice A5 rv.length c5, .slice A6 rp.length c6, .slice A7 m c7] 103 (0, 0)) * S2))) (fun v _ => (intOf v).toNat)
  case atStart => exact ⟨m - 1, by omega, by omega, by congr 1; omega, inferInstance, Ent.sep (S := _) inferInstance inferInstance⟩
  case round =>
    obtain ⟨i, hi1, hi2, rfl, HX, HS5⟩ := hrel
    obtain ⟨p, hp, hs1, hs2⟩ := HAT.out i hi2
    obtain ⟨bp, op, rfl⟩ := rP.addr HS4.right (j := i) (by rw [c3s_len, HPL.out]; omega)
    have e1 := rP.cell (c3s_get hs1).2.2
    have e2 := rP.cell (c3s_get hs1).2.1
    simp only at e1 e2
    have h0 := HF0.out p
    have h1 := HF1.out i p hp
    obtain ⟨⟩ : True := trivial
    by_cases hik : i = k0
    · subst hik
      have h3 := h0 hp
      rw [h3] at e1
      clear h0 h1 h3 hp hs1 hs2
      go_wp2
      go_loopw [10, 12] (fun v10 v12 wx => ∃ (k : Int) (Ol : List Int) (g cc : Nat), -1 ≤ k ∧ k < m ∧ (Ol.length : Int) + k < m ∧ v12 = .int .i64 k ∧ v10 = .slice (some ⟨g, 0, none⟩) Ol.length cc ∧ Hd (Ol.reverse ++ CH k = CH (i : Int)) ∧ ExtI w wx ∧ SepI wx (Row 3 1 (.slice (some ⟨g, 0, none⟩) Ol.length cc) Ol.length (ints Ol) * (pts w3.heap.size (.cells #[Value.slice A1 ca.length c1, .slice (some ⟨bp, op, none⟩) m c2, .slice A3 dp.length c3, .slice A4 us.length c4, .slice A5 rv.length c5, .slice A6 rp.length c6, .slice A7 m c7] 103 (0, 0)) * S2))) (fun _ v _ => (intOf v + 1).toNat)
      case atStart => exact ⟨i, [], w.heap.size + 1, 0, by omega, by omega, by simp; omega, rfl, rfl, ⟨rfl⟩, inferInstance, HS5⟩
      case round =>
        obtain ⟨k, Ol, g, cc, hk1, hk2, hk3, rfl, rfl, HT, HX, HS6⟩ := hrel
        by_cases hlt : 0 ≤ k
        · obtain ⟨j, rfl⟩ : ∃ j : Nat, k = (j : Int) := ⟨k.toNat, by omega⟩
          obtain ⟨q, hq, hs3, hs4⟩ := HAT.out j (by omega)
          obtain ⟨bb, ob, rfl⟩ := rB.addr HS4.right (j := j) (by rw [ints_len, HBL.out]; omega)
          have e3 := rP.cell (c3s_get hs3).2.1
          have e4 := rB.cell (ints_get hs4)
          simp only at e3
          have hla := HLA.out j _ hq
          have HCY := Hd.mk (HCA.out j _ hq)
          obtain ⟨qca, qfn, qva, qde, qfa, qby, qla, qag, qun⟩ := q
          simp only at e3 e4 hla HCY
          have hol : Ol.length ≤ 1000 := by omega
          have HOO : Hd ([Value.int .i64 qva] ++ ints Ol = ints (qva :: Ol)) := ⟨rfl⟩
          have HLL : Hd (1 + Ol.length = (qva :: Ol).length) := ⟨by simp; omega⟩
          have HT2 : Hd ((qva :: Ol).reverse ++ CH qla = CH (i : Int)) := ⟨by rw [← HT.out, HCY.out]; simp⟩
          have hl2 : ((qva :: Ol).length : Int) + qla < m := by rw [← HLL.out]; omega
          have HL2 := Hd.mk hl2
          have hA : SepI (wr.alloc (.cells #[.int .i64 qva] 3 (0, 0))) (Row 3 1 (.slice (some ⟨wr.heap.size, 0, none⟩) 1 1) 1 [.int .i64 qva] * (Row 3 1 (.slice (some ⟨g, 0, none⟩) Ol.length cc) Ol.length (ints Ol) * (pts w3.heap.size (.cells #[Value.slice A1 ca.length c1, .slice (some ⟨bp, op, none⟩) m c2, .slice A3 dp.length c3, .slice A4 us.length c4, .slice A5 rv.length c5, .slice A6 rp.length c6, .slice (some ⟨bb, ob, none⟩) m c7] 103 (0, 0)) * S2))) := Row.lit1Z (SepI.i_alloc wr _ _ _)
          have HA := Hd.mk hA
          have hrd : Hd (∀ F, Rd (Row 3 1 (.slice (some ⟨g, 0, none⟩) Ol.length cc) Ol.length (ints Ol) * F) (some ⟨g, 0, none⟩) (ints Ol)) := ⟨fun F => inferInstance⟩
          clear hq hs3 hs4 hl2 hA
          go_wp2_with (at_builtin; go_must (refine ev_appendR (H := HA.out) (v := .slice (some ⟨wr.heap.size, 0, none⟩) 1 1) rfl _ _ 26 rfl rfl 8 _ Try.underlying26 info_int rfl (by decide) (by decide) (some ⟨g, 0, none⟩) Ol.length cc rfl (news := ints Ol) (fun h => by cases h) (by rw [ints_len, Nat.mul_one]) (ints_one Ol) (by omega) ?_); intro v1 w4 HS7 HE7; replace HS7 := Row.as HS7 HLL.out HOO.out; obtain ⟨A9, c9, rfl, _, _⟩ := Row.form HS7; obtain ⟨g9, rfl⟩ := Row.addr HS7 (by simp))
          go_roundw
          case rel => exact ⟨qla, qva :: Ol, g9, c9, by omega, by omega, HL2.out, rfl, rfl, HT2, inferInstance, Ent.sep (S := _) inferInstance HS7⟩
          case measure => (simp [intOf]; try omega)
        · have : k = -1 := by omega
          subst this
          have HOE : Hd ((CH (i : Int)).reverse = Ol) := ⟨by rw [← HT.out, HCN.out, List.append_nil, List.reverse_reverse]⟩
          go_wp2
          go_ret2
          rw [HOE.out]
          exact IntsOk.of (v := .slice (some ⟨g, 0, none⟩) Ol.length cc) (Post.mk' (Ent.sep (S := _) inferInstance (SepI.cast (HOUT.out _ _ (SepI.cast HS6 (star_assoc _ _ _).symm)) (star_assoc _ _ _))) inferInstance)
    · have h3 := h1 (by omega)
      have hkb : (p.fa == 3) = false := beq_eq_false_iff_ne.2 h3
      have hkc : (p.fa != 3) = true := bne_iff_ne.2 h3
      have hwi : IntKind.i64.wrap ((i : Int) - 1) = (i : Int) - 1 := IntWalk.i64_in _ (by omega)
      clear h0 h1 h3 hp hs1 hs2
      go_wp2
      go_roundw
      case rel => exact ⟨i - 1, by omega, by omega, by congr 1; omega, inferInstance, Ent.sep (S := _) inferInstance inferInstance⟩
      case measure => (simp [intOf]; try omega)
def ok_PanicChain (L : List (List St)) (fn arg fuel : Int) : Bool := pkB L fn arg fuel
def ans_PanicChain (L : List (List St)) (fn arg fuel : Int) : List Int := if pkB L fn arg fuel then chainA (ranM L fn arg fuel.toNat).m.panics else []
theorem pk_no {L : List (List St)} {fn arg fuel : Int} (h : askB L fn arg fuel = false) : ans_PanicChain L fn arg fuel = [] ∧ ok_PanicChain L fn arg fuel = false := by
  have e : pkB L fn arg fuel = false := by unfold pkB; rw [h]; rfl
  unfold ans_PanicChain ok_PanicChain
  rw [e]; exact ⟨rfl, rfl⟩
theorem pk_other {L : List (List St)} {fn arg : Int} {fu : Nat} (hk : (ranM L fn arg fu).kind ≠ 2) : ans_PanicChain L fn arg fu = [] ∧ ok_PanicChain L fn arg fu = false := by
  have e : pkB L fn arg fu = false := by unfold pkB; rw [Int.toNat_natCast, beq_eq_false_iff_ne.2 hk, Bool.and_false]
  unfold ans_PanicChain ok_PanicChain
  rw [e]; exact ⟨rfl, rfl⟩
theorem pk_yes {L : List (List St)} {fn arg : Int} {fu : Nat} (h : askB L fn arg fu = true) (hk : (ranM L fn arg fu).kind = 2) : ans_PanicChain L fn arg fu = chainA (ranM L fn arg fu).m.panics ∧ ok_PanicChain L fn arg fu = true := by
  have e : pkB L fn arg fu = true := by unfold pkB; rw [h, Int.toNat_natCast, hk]; rfl
  unfold ans_PanicChain ok_PanicChain
  rw [e]; exact ⟨rfl, rfl⟩
theorem impl_PanicChainA (S : HP) (w : World) [H : SepI w S] (A : Option Addr) (c : Nat) (bs : List Bd) [r : Rd S A (cBds bs)] [B : Bodies S bs] (fn arg fuel : Int) :
    Calls Try.prog 50 #[.agg #[.slice A bs.length c], .int .i64 fn, .int .i64 arg, .int .i64 fuel] w (IntsOk S (ans_PanicChain (bs.map (·.l)) fn arg fuel) (ok_PanicChain (bs.map (·.l)) fn arg fuel) w) := by
  obtain ⟨v, hv⟩ : ∃ v, askB (bs.map (·.l)) fn arg fuel = v := ⟨_, rfl⟩
  cases v
  · rw [(pk_no hv).1, (pk_no hv).2]; exact impl_PanicChainN S w A c bs fn arg fuel hv
  · obtain ⟨fu, rfl⟩ : ∃ fu : Nat, fuel = fu := ⟨fuel.toNat, by have := (askB_of hv).2.2.2.1; omega⟩
    by_cases hk : (ranM (bs.map (·.l)) fn arg fu).kind = 2
    · rw [(pk_yes hv hk).1, (pk_yes hv hk).2]; exact impl_PanicChainV S w A c bs fn arg fu _ rfl hv hk
    · rw [(pk_other hk).1, (pk_other hk).2]; exact impl_PanicChainO S w A c bs fn arg fu _ rfl hv hk
theorem spec_PanicChainA (S : HP) (w : World) [H : SepI w S] (A : Option Addr) (c : Nat) (bs : List Bd) [r : Rd S A (cBds bs)] [B : Bodies S bs] (hnn : NoneNil bs) (fn arg fuel : Int) :
    Calls Try.prog 49 #[.agg #[.slice A bs.length c], .int .i64 fn, .int .i64 arg, .int .i64 fuel] w (IntsOk S (ans_PanicChain (bs.map (·.l)) fn arg fuel) (ok_PanicChain (bs.map (·.l)) fn arg fuel) w) := by
  obtain ⟨v, hv⟩ : ∃ v, askB (bs.map (·.l)) fn arg fuel = v := ⟨_, rfl⟩
  cases v
  · rw [(pk_no hv).1, (pk_no hv).2]; exact spec_PanicChainN S w A c bs fn arg fuel hv
  · obtain ⟨fu, rfl⟩ : ∃ fu : Nat, fuel = fu := ⟨fuel.toNat, by have := (askB_of hv).2.2.2.1; omega⟩
    by_cases hk : (ranM (bs.map (·.l)) fn arg fu).kind = 2
    · rw [(pk_yes hv hk).1, (pk_yes hv hk).2]; exact spec_PanicChainV S w A c bs hnn fn arg fu _ rfl hv hk
    · rw [(pk_other hk).1, (pk_other hk).2]; exact spec_PanicChainO S w A c bs hnn fn arg fu _ rfl hv hk
theorem small_PanicChain (L : List (List St)) (fn arg fuel : Int) : (ans_PanicChain L fn arg fuel).length ≤ 1048576 := by
  obtain ⟨v, hv⟩ : ∃ v, askB L fn arg fuel = v := ⟨_, rfl⟩
  cases v
  · rw [(pk_no hv).1]; simp
  · obtain ⟨fu, rfl⟩ : ∃ fu : Nat, fuel = fu := ⟨fuel.toNat, by have := (askB_of hv).2.2.2.1; omega⟩
    by_cases hk : (ranM L fn arg fu).kind = 2
    · rw [(pk_yes hv hk).1]
      have FF := factsB hv
      obtain ⟨k0, p0, hg0, hf0, hu0⟩ := FF.arr hk
      have hl := (List.getElem?_eq_some_iff.1 hg0).1
      unfold chainA
      rw [List.length_reverse, arrK_of hg0 hf0 hu0]
      have := chK_len _ FF.la (ranM L fn arg fu).m.panics.length (Nat.le_refl _) (k0 : Int) (by omega) (by omega)
      have h1 := FF.bl.p
      have h2 := FF.ts
      omega
    · rw [(pk_other hk).1]; simp
end Go.Proofs.Ytobikkdnalnllaa
