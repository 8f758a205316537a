/- SavedEnds, by the program and by the reference. Conditions: lengths within bounds. -/
import Derived.Test.YtobikkdnalnllaaQn
import Derived.Test.YtobikkdnalnllaaQl
import Derived.Test.YtobikkdnalnllaaZc
import Derived.Test.YtobikkdnalnllaaZm
namespace Go.Proofs.Ytobikkdnalnllaa
open Go.RowKit SL
attribute [local go_sem] cell_blk frozen_blk lt_blk cell_at frozen_row lt_row
set_option linter.unusedVariables false
set_option linter.unusedSimpArgs false

theorem MRd.dropZ {S0 S X : HP} {gm : Nat} {A : Option Addr} {n c : Nat} {fuel : Int} {R : Run} {x : MVs} (M : MRd S0 S gm A n c fuel R x) : MRd (X * S0) S gm A n c fuel R x := by
  have := M.blk
  have := M.tr
  have := M.ow
  have := M.ca
  have := M.pa
  have := M.rc
  refine ⟨inferInstance, inferInstance, inferInstance, inferInstance, inferInstance, inferInstance, fun {Y w} H => ?_, fun H => M.out0 H.right, fun H => M.us H.right⟩
  have h1 : SepI w ((Y * X) * S0) := SepI.cast H (star_assoc _ _ _).symm
  have h2 : SepI w (Y * (X * S)) := SepI.cast (M.out h1) (star_assoc _ _ _)
  exact Ent.sep (S := _) inferInstance h2
/-- The saved calls in the order in which they were saved, the last one first. -/
def knA (m : Ma) (k : Nat) : List Int := ((m.recs.take k).map (fun r => r.sa)).reverse
/-- The ends of these, each once. -/
def ensA (m : Ma) (k : Nat) : List Int := (firsts ((m.recs.take k).map (fun r => r.sa))).map (enAt (m.calls.map c5))
theorem knA_next {m : Ma} {k : Nat} {q : Rc} (h : m.recs[k]? = some q) : knA m (k + 1) = q.sa :: knA m k := by unfold knA; rw [take_succ_eq h, List.map_append, List.reverse_append]; rfl
theorem ensA_old {m : Ma} {k : Nat} {q : Rc} (h : m.recs[k]? = some q) (hk : q.sa ∈ knA m k) : ensA m (k + 1) = ensA m k := by
  unfold knA at hk
  rw [List.mem_reverse] at hk
  unfold ensA
  rw [take_succ_eq h, List.map_append, List.map_cons, List.map_nil, firsts_snoc]
  unfold frsS
  rw [if_pos ((firsts_mem _ _).2 hk)]
theorem ensA_new {m : Ma} {k : Nat} {q : Rc} (h : m.recs[k]? = some q) (hk : ¬ q.sa ∈ knA m k) : ensA m (k + 1) = ensA m k ++ [enAt (m.calls.map c5) q.sa] := by
  unfold knA at hk
  rw [List.mem_reverse] at hk
  unfold ensA
  rw [take_succ_eq h, List.map_append, List.map_cons, List.map_nil, firsts_snoc]
  unfold frsS
  rw [if_neg (fun hh => hk ((firsts_mem _ _).1 hh)), List.map_append]; rfl
theorem firsts_len (l : List Int) : (firsts l).length ≤ l.length := by
  have key : ∀ (l k : List Int), (l.foldl frsS k).length ≤ k.length + l.length := by
    intro l
    induction l with
    | nil => intro k; simp
    | cons x l ih =>
      intro k
      rw [List.foldl_cons]
      have := ih (frsS k x)
      have h2 : (frsS k x).length ≤ k.length + 1 := by
        unfold frsS
        split
        · omega
        · simp
      simp only [List.length_cons]; omega
  have := key l []
  simpa [firsts] using this
theorem ensA_len (m : Ma) (k : Nat) : (ensA m k).length ≤ k := by
  unfold ensA
  rw [List.length_map]
  have h1 := firsts_len ((m.recs.take k).map (fun r => r.sa))
  rw [List.length_map, List.length_take] at h1
  omega
theorem rec_sa {R : Run} (FC : Facts R) {q : Rc} (hq : q ∈ R.m.recs) : ∃ s : Nat, q.sa = (s : Int) ∧ s < R.m.calls.length := by
  obtain ⟨h1, ⟨cl, hcl, hup⟩, h3, h4, h5⟩ := FC.rs.ok q hq
  have h6 := FC.cs.up _ _ hcl
  have h7 := (List.getElem?_eq_some_iff.1 hcl).1
  exact ⟨q.sa.toNat, by omega, by omega⟩
/-- What is told in the end. -/
def savQ (m : Ma) : R4s := endQ (selN (m.calls.map c5) (m.recs.map (fun r => r.sa)) m.calls.length)
theorem savQ_eq {R : Run} (FC : Facts R) : endQ (ensA R.m R.m.recs.length) = savQ R.m := by
  unfold ensA savQ selN
  rw [List.take_length]
  exact endQ_perm (saved_perm (R.m.calls.map c5) (R.m.recs.map (fun r => r.sa)) R.m.calls.length fun x hx => by
    obtain ⟨q, hq, rfl⟩ := List.mem_map.1 hx
    obtain ⟨s, hs, hl⟩ := rec_sa FC hq
    rw [hs]; omega)
set_option maxRecDepth 100000 in
set_option maxHeartbeats 8000000 in
theorem impl_SavedEnds1 (S0 S : HP) (w : World) (bk bq bo k : Nat) (Kl El : List Int) [H : SepI w (pts bk (.cells #[.map (some bq)] 86 (0, 0)) * (IMapH bq k Kl * (pts bo (.cells (q4 (endQ El)) 41 (0, 0)) * S0)))] (gm : Nat) (A : Option Addr) (n c : Nat) (fuel : Int) (R : Run) (x : MVs) (M : MRd S0 S gm A n c fuel R x) (FC : Facts R) (q : Rc) (hq : q ∈ R.m.recs) (hkl : k ≤ 1000) (hel : El.length ≤ 1000) :
    Calls Try.prog 69 #[.pointer (some ⟨gm, 0, none⟩), .agg #[.int .i64 q.ca, .int .i64 q.sa, .int .i64 q.pa], .pointer (some ⟨bk, 0, none⟩), .pointer (some ⟨bo, 0, none⟩)] w fun e w' => e = .returned (.int .i64 0) ∧ Post w (pts bk (.cells #[.map (some bq)] 86 (0, 0)) * (IMapH bq (k + 1) (q.sa :: Kl) * (pts bo (.cells (q4 (endQ (if q.sa ∈ Kl then El else El ++ [enAt (R.m.calls.map c5) q.sa]))) 41 (0, 0)) * S0))) w' := by
  obtain ⟨s, hs, hsl⟩ := rec_sa FC hq
  obtain ⟨qa, qs, qp⟩ := q
  simp only at hs
  subst hs
  simp only
  have hcl : R.m.calls.length ≤ 1000 := by have h1 := FC.bl.c; have h2 := FC.ts; omega
  obtain ⟨cl, hcs⟩ := get_ex (xs := R.m.calls) (k := s) hsl
  have hen := FC.cs.en cl (List.mem_of_getElem? hcs)
  obtain ⟨k4, hk4e, hk4⟩ : ∃ k4 : Nat, cl.en = (k4 : Int) + 1 ∧ k4 < 4 := ⟨(cl.en - 1).toNat, by omega, by omega⟩
  have hea : enAt (R.m.calls.map c5) (s : Int) = (k4 : Int) + 1 := by
    unfold enAt
    rw [Int.toNat_natCast, List.getD_eq_getElem?_getD, List.getElem?_map, hcs, ← hk4e]; rfl
  rw [hea]
  obtain ⟨nc, hnc⟩ : ∃ nc, nc = R.m.calls.length := ⟨_, rfl⟩
  obtain ⟨A1, c1, A2, c2, A3, c3, A4, c4, A5, c5', bm, ps⟩ := x
  have i1 := M.blk
  have rC := M.ca
  dsimp only at i1 rC
  have hsn : s < nc := by omega
  obtain ⟨bC, oC, rfl⟩ := rC.addr H.right.right.right (j := s) (by rw [cCis_len]; omega)
  rw [← hnc] at i1
  have e4 := rC.cell (cCis_at hcs).2.2.2.1
  rw [hk4e] at e4
  have hle := endQ_le El k4 hk4
  have hqn := endQ_next El ((k4 : Int) + 1) k4 hk4 rfl
  obtain ⟨Q, hQ⟩ : ∃ Q, endQ El = Q := ⟨_, rfl⟩
  rw [hQ] at H hle hqn
  have hget : (q4 Q)[k4]? = some (.int .i64 (regAt Q.l k4)) := q4_get hk4
  obtain ⟨rv, hrv⟩ : ∃ rv, regAt Q.l k4 = rv := ⟨_, rfl⟩
  rw [hrv] at hle hqn hget
  have hw : IntKind.i64.wrap (rv + 1) = rv + 1 := IntWalk.i64_in _ (by omega)
  have hwe : IntKind.i64.wrap ((k4 : Int) + 1 - 1) = (k4 : Int) := by rw [IntWalk.i64_in _ (by omega)]; omega
  have hk4i : (k4 : Int) < 4 := by omega
  have hwk : IntKind.i64.wrap (k4 : Int) = (k4 : Int) := IntWalk.i64_in _ (by omega)
  obtain ⟨v, hv⟩ : ∃ v, decide ((s : Int) ∈ Kl) = v := ⟨_, rfl⟩
  have HV := Hd.mk hv
  have HQN : Hd (Q.set k4 (rv + 1) = endQ (El ++ [(k4 : Int) + 1])) := ⟨hqn.symm⟩
  have HQE : Hd (endQ El = Q) := ⟨hQ⟩
  have hs1000 : s ≤ 1000 := by omega
  clear M FC hq hcs hen hk4e hea hnc hsl hcl hqn hQ hrv
  have HL1 := SepI.pick (A := IMapH bq k Kl) (SepI.i_alloc w (.cells #[.int .i64 qa, .int .i64 (s : Int), .int .i64 qp] 90 (0, 0)) _ _) inferInstance
  have hlook := IMapH.look HL1 (s : Int) (by omega)
  rw [hv] at hlook
  clear HL1
  cases v
  · have hn : ¬ (s : Int) ∈ Kl := of_decide_eq_false HV.out
    rw [if_neg hn]
    clear hn
    go_enter Try.func69, Try.ntmps69
    go_wp2
    refine wp_region_W 13 16 (by kernel_rfl) (by kernel_rfl) (fun w' => w'.cell? ⟨gm, 8, none⟩ = some (.slice (some ⟨bC, oC, none⟩) nc c3) ∧ w'.cell? ⟨w.heap.size, 1, none⟩ = some (.int .i64 (s : Int)) ∧ w'.cell? ⟨bo, k4, none⟩ = some (.int .i64 rv) ∧ w'.cell? ⟨bC, oC + s * 6 + 3, none⟩ = some (.int .i64 ((k4 : Int) + 1))) ⟨cb, cb, (cell_blk _ _ _ _ _ _ _).trans hget, cell_at _ _ _ _ _⟩ (fun hHeld => ?_)
    refine tkp 0 hHeld ?_
    refine tkp 1 hHeld ?_
    refine tkp 2 hHeld ?_
    refine tkl 3 hHeld ?_
    refine tkp 4 hHeld ?_
    refine tkl 5 hHeld ?_
    refine tkp 6 hHeld ?_
    refine tkp 7 hHeld ?_
    refine tkp 8 hHeld ?_
    refine tkl 9 hHeld ?_
    refine tkp 10 hHeld ?_
    refine tkp 11 hHeld ?_
    refine tkl 12 hHeld ?_
    refine wpAnyW_done (by kernel_rfl) ?_
    go_wp2_with (at_mapUpdate; refine ev_iset (b := bq) (n := k) (K := Kl) rfl _ _ _ rfl rfl (by omega) (s : Int) rfl rfl (by omega) ?_; intro w1 HS1 HE1)
    go_ret
    exact ⟨rfl, Post.mk' (SepI.cast (Ent.sep (S := _) (T := pts bk (.cells #[.map (some bq)] 86 (0, 0)) * (IMapH bq (k + 1) ((s : Int) :: Kl) * (pts bo (.cells ((q4 Q).setIfInBounds k4 (.int .i64 (rv + 1))) 41 (0, 0)) * S0))) inferInstance inferInstance) (by rw [q4_set hk4, HQN.out])) inferInstance⟩
  · have hn : (s : Int) ∈ Kl := of_decide_eq_true HV.out
    rw [if_pos hn, HQE.out]
    clear hn
    go_enter Try.func69, Try.ntmps69
    go_wp2_with (at_mapUpdate; refine ev_iset (b := bq) (n := k) (K := Kl) rfl _ _ _ rfl rfl (by omega) (s : Int) rfl rfl (by omega) ?_; intro w1 HS1 HE1)
    go_ret
    exact ⟨rfl, Post.mk' (Ent.sep (S := _) inferInstance inferInstance) inferInstance⟩
set_option maxRecDepth 100000 in
set_option maxHeartbeats 8000000 in
theorem impl_SavedEndsN (S : HP) (w : World) [H : SepI w S] (A : Option Addr) (c : Nat) (bs : List Bd) [r : Rd S A (cBds bs)] [B : Bodies S bs] (fn arg fuel : Int) (hv : askB (bs.map (·.l)) fn arg fuel = false) :
    Calls Try.prog 29 #[.agg #[.slice A bs.length c], .int .i64 fn, .int .i64 arg, .int .i64 fuel] w (A4Ok S ((0, 0, 0, 0), false) w) := by
  have HV := Hd.mk hv
  clear hv
  have hmf : ∀ (fn : Fn) (first cap : Array Value) (w : World), (Instr.makeFunc fn first cap).run Try.prog w = .ok (.func fn first cap) w := fun _ _ _ _ => rfl
  have hmm := @run_makeMap Try.prog
  go_enter Try.func29, Try.ntmps29
  go_wp2_with fail
  refine (impl_ofRecoveriesN _ _ A c bs fn arg fuel _ _ HV.out).mono ?_
  rintro e w1 ⟨A1, c1, rfl, HP⟩
  have HS1 := HP.sep
  have HE1 := HP.ext
  clear HP
  go_wp2
  refine bodyPost_ret (v := .tuple #[.agg #[.int .i64 0, .int .i64 0, .int .i64 0, .int .i64 0], .bool false]) (by simp [results, Try.results29, go_sem]) rfl ?_
  exact ⟨rfl, Post.mk' (Ent.sep (S := _) inferInstance inferInstance) inferInstance⟩
set_option maxRecDepth 100000 in
set_option maxHeartbeats 8000000 in
theorem impl_SavedEndsV (S : HP) (w : World) [H : SepI w S] (A : Option Addr) (c : Nat) (bs : List Bd) [r : Rd S A (cBds bs)] [B : Bodies S bs] (fn arg : Int) (fu : Nat) (L : List (List St)) (hbs : bs.map (·.l) = L) (hv : askB L fn arg fu = true) :
    Calls Try.prog 29 #[.agg #[.slice A bs.length c], .int .i64 fn, .int .i64 arg, .int .i64 fu] w (A4Ok S (endV (savQ (ranM L fn arg fu).m) true) w) := by
  have HV := Hd.mk hv
  have HB := Hd.mk hbs
  have HF := Hd.mk (factsB hv)
  clear hv hbs
  have HEN : Hd (Enters 69) := ⟨fun args w => by go_simp⟩
  rw [← savQ_eq HF.out]
  have hmf : ∀ (fn : Fn) (first cap : Array Value) (w : World), (Instr.makeFunc fn first cap).run Try.prog w = .ok (.func fn first cap) w := fun _ _ _ _ => rfl
  have hmm := @run_makeMap Try.prog
  go_enter Try.func29, Try.ntmps29
  go_wp2_with fail
  refine (@impl_ofRecoveriesV (pts (w.heap.size + 1) (.cells #[.int .i64 0, .int .i64 0, .int .i64 0, .int .i64 0] 41 (0, 0)) * (pts w.heap.size (.cells #[.slice A bs.length c] 31 (0, 0)) * S)) (fun k => (pts (w.heap.size + 1 + 1 + 1 + 1) (.cells #[.map (some (w.heap.size + 1 + 1))] 86 (0, 0)) * (IMapH (w.heap.size + 1 + 1) k (knA (ranM L fn arg fu).m k) * pts (w.heap.size + 1 + 1 + 1) (.cells (q4 (endQ (ensA (ranM L fn arg fu).m k))) 41 (0, 0))))) _ (by exact SepI.cast (SepI.unpick (S := pts (w.heap.size + 1 + 1 + 1 + 1) (.cells #[.map (some (w.heap.size + 1 + 1))] 86 (0, 0)) * (pts (w.heap.size + 1 + 1 + 1) (.cells #[.int .i64 0, .int .i64 0, .int .i64 0, .int .i64 0] 41 (0, 0)) * (IMapH (w.heap.size + 1 + 1) 0 [] * (pts (w.heap.size + 1) (.cells #[.int .i64 0, .int .i64 0, .int .i64 0, .int .i64 0] 41 (0, 0)) * (pts w.heap.size (.cells #[.slice A bs.length c] 31 (0, 0)) * S))))) (IMapH.made (SepI.pick (A := pts (w.heap.size + 1 + 1) (.map #[] 0)) (S := pts (w.heap.size + 1 + 1 + 1 + 1) (.cells #[.map (some (w.heap.size + 1 + 1))] 86 (0, 0)) * (pts (w.heap.size + 1 + 1 + 1) (.cells #[.int .i64 0, .int .i64 0, .int .i64 0, .int .i64 0] 41 (0, 0)) * (pts (w.heap.size + 1 + 1) (.map #[] 0) * (pts (w.heap.size + 1) (.cells #[.int .i64 0, .int .i64 0, .int .i64 0, .int .i64 0] 41 (0, 0)) * (pts w.heap.size (.cells #[.slice A bs.length c] 31 (0, 0)) * S))))) inferInstance inferInstance)) inferInstance) (by unfold knA ensA; simp only [List.take_zero, List.map_nil, List.reverse_nil]; show _ = pts (w.heap.size + 1 + 1 + 1 + 1) (.cells #[.map (some (w.heap.size + 1 + 1))] 86 (0, 0)) * (IMapH (w.heap.size + 1 + 1) 0 [] * pts (w.heap.size + 1 + 1 + 1) (.cells #[.int .i64 0, .int .i64 0, .int .i64 0, .int .i64 0] 41 (0, 0))) * (pts (w.heap.size + 1) (.cells #[.int .i64 0, .int .i64 0, .int .i64 0, .int .i64 0] 41 (0, 0)) * (pts w.heap.size (.cells #[.slice A bs.length c] 31 (0, 0)) * S)); simp only [star_assoc]; rw [star_left (pts (w.heap.size + 1 + 1 + 1) _)])) A c bs inferInstance inferInstance _ _ (fun _ => 0) HEN.out fn arg fu L HB.out HV.out ?_).mono ?_
  · intro X gm x S0 M hp k q hq X2 W HW
    have hkl : k ≤ 1000 := by
      have h1 := (List.getElem?_eq_some_iff.1 hq).1
      have h2 := HF.out.bl.r
      have h3 := HF.out.ts
      omega
    have M2 := M.dropZ (X := X2)
    have HW1 : SepI W (pts (w.heap.size + 1 + 1 + 1 + 1) (.cells #[.map (some (w.heap.size + 1 + 1))] 86 (0, 0)) * (IMapH (w.heap.size + 1 + 1) k (knA (ranM L fn arg fu).m k) * (pts (w.heap.size + 1 + 1 + 1) (.cells (q4 (endQ (ensA (ranM L fn arg fu).m k))) 41 (0, 0)) * (X2 * S0)))) := SepI.cast HW (by simp only [star_assoc]; rw [star_left X2, star_left X2, star_left X2])
    have hel := ensA_len (ranM L fn arg fu).m k
    refine (@impl_SavedEnds1 _ _ W (w.heap.size + 1 + 1 + 1 + 1) (w.heap.size + 1 + 1) (w.heap.size + 1 + 1 + 1) k _ _ HW1 gm A bs.length c fu _ x M2 HF.out q (List.mem_of_getElem? hq) hkl (by omega)).mono ?_
    rintro e1 w1 ⟨rfl, h⟩
    refine ⟨rfl, ⟨SepI.cast h.sep ?_, h.ext⟩⟩
    have eE : (if q.sa ∈ knA (ranM L fn arg fu).m k then ensA (ranM L fn arg fu).m k else ensA (ranM L fn arg fu).m k ++ [enAt ((ranM L fn arg fu).m.calls.map c5) q.sa]) = ensA (ranM L fn arg fu).m (k + 1) := by
      split
      · rename_i hh; rw [ensA_old hq hh]
      · rename_i hh; rw [ensA_new hq hh]
    rw [eE, ← knA_next hq]
    simp only [star_assoc]
    rw [star_left X2, star_left X2, star_left X2]
  · obtain ⟨m, hm⟩ : ∃ m, (ranM L fn arg fu).m.recs.length = m := ⟨_, rfl⟩
    have HMM := Hd.mk hm
    rw [hm]
    clear hm
    rintro e w1 ⟨A1, c1, rfl, HP⟩
    have HS1 := HP.sep
    have HE1 := HP.ext
    clear HP
    obtain ⟨Q, hQ⟩ : ∃ Q, endQ (ensA (ranM L fn arg fu).m m) = Q := ⟨_, rfl⟩
    rw [hQ] at HS1
    have HQ := Hd.mk hQ
    clear hQ
    simp only [star_assoc] at HS1
    go_wp2
    refine bodyPost_ret (v := .tuple #[.agg #[.int .i64 Q.a, .int .i64 Q.b, .int .i64 Q.c, .int .i64 Q.d], .bool true]) (by simp [results, Try.results29, go_sem]) rfl ?_
    exact ⟨by rw [HMM.out, HQ.out]; rfl, Post.mk' (Ent.sep (S := _) (T := S) inferInstance inferInstance) inferInstance⟩
set_option maxRecDepth 100000 in
set_option maxHeartbeats 8000000 in
theorem spec_l1HasZ (S : HP) (w : World) [H : SepI w S] (A : Option Addr) (c : Nat) (l : List Int) [r : Rd S A (ints l)] (hn : l.length ≤ 1048576) (x : Int) (v : Bool) (hv : l.contains x = v) :
    Calls Try.prog 67 #[.slice A l.length c, .int .i64 x] w fun e w' => e = .returned (.bool v) ∧ w' = w := by
  obtain ⟨m, hm⟩ : ∃ m, m = l.length := ⟨_, rfl⟩
  have HM := Hd.mk hm
  have HV := Hd.mk hv
  rw [← hm] at hn ⊢
  clear hm hv
  go_enter Try.func67, Try.ntmps67
  go_wp2
  go_loopw [5] (fun v5 wr => ∃ (i : Nat), i ≤ m ∧ v5 = .int .i64 i ∧ wr = w ∧ Hd (∀ (j : Nat) (y : Int), j < i → l[j]? = some y → y ≠ x)) (fun v _ => m - (intOf v).toNat)
  case atStart => exact ⟨0, Nat.zero_le _, rfl, by first | trivial | rfl, ⟨fun j y h => absurd h (by omega)⟩⟩
  case round =>
    obtain ⟨i, hi, rfl, rfl, HB⟩ := hrel
    by_cases hlt : i < m
    · obtain ⟨y, hy⟩ := get_ex (xs := l) (k := i) (by rw [← HM.out]; exact hlt)
      obtain ⟨b0, off, rfl⟩ := r.addr H (j := i) (by rw [ints_len, ← HM.out]; exact hlt)
      have c1 := r.cell (ints_get hy)
      have HY := Hd.mk hy
      clear hy
      obtain ⟨q, hq⟩ : ∃ q, (y == x) = q := ⟨_, rfl⟩
      cases q
      · go_wp2
        go_roundw
        case rel => exact ⟨i + 1, by omega, by go_num, by first | trivial | rfl, ⟨fun j z h hz => by
          by_cases hj : j < i
          · exact HB.out j z hj hz
          · have : j = i := by omega
            subst this
            rw [HY.out] at hz
            injection hz with hz
            subst hz
            exact ne_of_beq_false hq⟩⟩
        case measure => (simp [intOf]; try omega)
      · go_wp2
        go_ret
        have : v = true := by
          rw [← HV.out]
          simp only [List.contains_iff_mem]
          rw [← eq_of_beq hq]
          exact List.mem_of_getElem? HY.out
        exact ⟨by rw [this]; rfl, rfl⟩
    · have : i = m := by omega
      subst this
      go_wp2
      go_ret
      have : v = false := by
        rw [← HV.out, Bool.eq_false_iff]
        intro hc
        obtain ⟨j, hj⟩ := List.mem_iff_getElem?.1 (List.contains_iff_mem.1 hc)
        exact HB.out j x (by rw [HM.out]; exact (List.getElem?_eq_some_iff.1 hj).1) hj rfl
      exact ⟨by rw [this]; rfl, rfl⟩
set_option maxRecDepth 100000 in
set_option maxHeartbeats 8000000 in
theorem spec_SavedEndsN (S : HP) (w : World) [H : SepI w S] (A : Option Addr) (c : Nat) (bs : List Bd) [r : Rd S A (cBds bs)] [B : Bodies S bs] (hnn : NoneNil bs) (fn arg fuel : Int) (hv : askB (bs.map (·.l)) fn arg fuel = false) :
    Calls Try.prog 28 #[.agg #[.slice A bs.length c], .int .i64 fn, .int .i64 arg, .int .i64 fuel] w (A4Ok S ((0, 0, 0, 0), false) w) := by
  have hbn := B.n
  have HOK : Hd (ok_CallTree (bs.map (·.l)) fn arg fuel = false) := ⟨hv⟩
  have HNN := Hd.mk hnn
  clear hv hnn
  have hnot : ∀ (x : Bool) (w : World), (Op.unary .not (.bool x)).run Try.prog w = .ok (.bool (!x)) w := fun _ _ => rfl
  go_enter Try.func28, Try.ntmps28
  go_wp2_with fail
  refine (spec_CallTreeA _ _ A c bs HNN.out fn arg fuel).mono ?_
  rw [HOK.out]
  rintro e w1 ⟨Ac, cc, rfl, HP⟩
  have HS1 := HP.sep
  have HE1 := HP.ext
  clear HP
  go_wp2
  refine bodyPost_ret (v := .tuple #[.agg #[.int .i64 0, .int .i64 0, .int .i64 0, .int .i64 0], .bool false]) (by simp [results, Try.results28, go_sem]) rfl ?_
  exact ⟨rfl, Post.mk' (Ent.sep (S := _) (T := S) inferInstance inferInstance) inferInstance⟩
set_option maxRecDepth 100000 in
set_option maxHeartbeats 8000000 in
theorem spec_SavedEndsV (S : HP) (w : World) [H : SepI w S] (A : Option Addr) (c : Nat) (bs : List Bd) [r : Rd S A (cBds bs)] [B : Bodies S bs] (hnn : NoneNil bs) (fn arg : Int) (fu : Nat) (L : List (List St)) (hbs : bs.map (·.l) = L) (hv : askB L fn arg fu = true) :
    Calls Try.prog 28 #[.agg #[.slice A bs.length c], .int .i64 fn, .int .i64 arg, .int .i64 fu] w (A4Ok S (endV (savQ (ranM L fn arg fu).m) true) w) := by
  have HNN := Hd.mk hnn
  clear hnn
  have hbn := B.n
  have HV := Hd.mk hv
  have HB := Hd.mk hbs
  have HF := Hd.mk (factsB hv)
  clear hv hbs
  obtain ⟨R, hR⟩ : ∃ R, ranM L fn arg fu = R := ⟨_, rfl⟩
  have HR := Hd.mk hR
  rw [hR] at HF ⊢
  clear hR
  obtain ⟨l, hl⟩ : ∃ l, R.m.calls.map c5 = l := ⟨_, rfl⟩
  obtain ⟨SV, hSV⟩ : ∃ SV, R.m.recs.map (fun r => r.sa) = SV := ⟨_, rfl⟩
  obtain ⟨m, hm⟩ : ∃ m, m = l.length := ⟨_, rfl⟩
  obtain ⟨ns, hns⟩ : ∃ ns, ns = SV.length := ⟨_, rfl⟩
  have hts := HF.out.ts
  have hblc := HF.out.bl.c
  have hblr := HF.out.bl.r
  have hlm : m = R.m.calls.length := by rw [hm, ← hl, List.length_map]
  have hml : m ≤ 1000 := by omega
  have HM := Hd.mk hm
  have HNS := Hd.mk hns
  have HSL : Hd (SV.length ≤ 1048576) := ⟨by rw [← hSV, List.length_map]; omega⟩
  have HA : Hd (ans_CallTree (bs.map (·.l)) fn arg fu = l ∧ ok_CallTree (bs.map (·.l)) fn arg fu = true) := ⟨by rw [HB.out, ans_CallTree_yes HV.out, HR.out, hl]; exact ⟨rfl, HV.out⟩⟩
  have HSV : Hd (savA R.m.trace R.m.owners (R.m.calls.map c5) = SV) := ⟨by rw [sav_eq HF.out]; exact hSV⟩
  have H6 : Hd (∀ (i : Nat) (e : Ev) (o : Int), R.m.trace[i]? = some e → R.m.owners[i]? = some o → e.k = 6 → ∃ j : Nat, o = j ∧ j < (R.m.calls.map c5).length) := ⟨fun i e o h1 h2 h3 => by rw [List.length_map]; exact own6 HF.out h1 h2 h3⟩
  have HCL : Hd ((R.m.calls.map c5).length ≤ 1000) := ⟨by rw [List.length_map]; omega⟩
  have HEN : Hd (∀ x ∈ l, 1 ≤ x.en ∧ x.en ≤ 4) := ⟨fun x hx => by
    rw [← hl] at hx
    obtain ⟨y, hy, rfl⟩ := List.mem_map.1 hx
    exact HF.out.cs.en y hy⟩
  obtain ⟨O, hO⟩ : ∃ O : Nat → List Int, O = selN l SV := ⟨_, rfl⟩
  have HO0 : Hd (O 0 = []) := ⟨by rw [hO]; rfl⟩
  have HOM : Hd (savQ R.m = endQ (O m)) := ⟨by unfold savQ; rw [hO, hl, hSV, hlm]⟩
  have HOY : Hd (∀ (i : Nat) (x : C5), l[i]? = some x → SV.contains (i : Int) = true → O (i + 1) = O i ++ [x.en]) := ⟨fun i x h hc => by rw [hO]; exact selN_yes h hc⟩
  have HON : Hd (∀ (i : Nat), SV.contains (i : Int) = false → O (i + 1) = O i) := ⟨fun i hc => by rw [hO]; exact selN_no hc⟩
  have HOL : Hd (∀ i : Nat, (O i).length ≤ i) := ⟨fun i => by rw [hO]; exact selN_len ..⟩
  have HML : Hd (l.length = m) := ⟨hm.symm⟩
  have HNL : Hd (SV.length = ns) := ⟨hns.symm⟩
  rw [HOM.out]
  clear hO hl hSV hlm hm hns
  have hnot : ∀ (x : Bool) (w : World), (Op.unary .not (.bool x)).run Try.prog w = .ok (.bool (!x)) w := fun _ _ => rfl
  go_enter Try.func28, Try.ntmps28
  go_wp2_with fail
  refine (spec_CallTreeA _ _ A c bs HNN.out fn arg fu).mono ?_
  rw [HA.out.1, HA.out.2]
  rintro e w1 ⟨Ac, cc, rfl, HP⟩
  have HS1 := HP.sep
  have HE1 := HP.ext
  clear HP
  rw [HML.out] at HS1 ⊢
  go_wp2_with fail
  refine (spec_runX _ _ A c bs HNN.out fn arg fu L HB.out HV.out).mono ?_
  rw [HR.out]
  rintro e w2 ⟨At, ct, rfl, HP⟩
  have HS2 := HP.sep
  have HE2 := HP.ext
  clear HP
  try simp only []
  rename_i hK
  refine hK _ _ ?_
  clear hK
  refine ev_val rfl _ rfl ?_
  go_wp2_with fail
  obtain ⟨now, hr3⟩ := HF.out.r3
  have HR3 := Hd.mk hr3
  clear hr3
  refine (@spec_l5Saved _ w2 HS2 At ct R.m.trace inferInstance HF.out.ts _ _ now HR3.out HF.out.len HCL.out H6.out).mono ?_
  rw [HSV.out]
  rintro e w3 ⟨As, cs, rfl, HP⟩
  rw [HNL.out] at HP ⊢
  have HS3 := HP.sep
  have HE3 := HP.ext
  clear HP
  have HS4 : SepI w3 (pts (w.heap.size + 1 + 1) (.cells (q4 (endQ (O 0))) 41 (0, 0)) * (Row 85 5 (.slice Ac m cc) m (cC5s l) * (Row 3 1 (.slice As ns cs) ns (ints SV) * (pts (w.heap.size + 1) (.cells #[.int .i64 0, .int .i64 0, .int .i64 0, .int .i64 0] 41 (0, 0)) * (pts w.heap.size (.cells #[.slice A bs.length c] 31 (0, 0)) * S))))) := by
    rw [HO0.out]
    show SepI w3 (pts (w.heap.size + 1 + 1) (.cells #[.int .i64 0, .int .i64 0, .int .i64 0, .int .i64 0] 41 (0, 0)) * (Row 85 5 (.slice Ac m cc) m (cC5s l) * (Row 3 1 (.slice As ns cs) ns (ints SV) * (pts (w.heap.size + 1) (.cells #[.int .i64 0, .int .i64 0, .int .i64 0, .int .i64 0] 41 (0, 0)) * (pts w.heap.size (.cells #[.slice A bs.length c] 31 (0, 0)) * S)))))
    exact Ent.sep (S := _) inferInstance HS3
  have HLH : Hd (∀ (wy : World) (S9 : HP), SepI wy S9 → Rd S9 As (ints SV) → ∀ (x : Int) (v : Bool), SV.contains x = v → Calls Try.prog 67 #[.slice As ns cs, .int .i64 x] wy fun e w' => e = .returned (.bool v) ∧ w' = wy) := ⟨fun wy S9 h r x v hv => by rw [HNS.out]; exact @spec_l1HasZ S9 wy h As cs SV r HSL.out x v hv⟩
  clear HS3
  go_wp2
  go_loopw [14] (fun v14 wr => ∃ i : Nat, i ≤ m ∧ v14 = .int .i64 i ∧ ExtI w wr ∧ SepI wr (pts (w.heap.size + 1 + 1) (.cells (q4 (endQ (O i))) 41 (0, 0)) * (Row 85 5 (.slice Ac m cc) m (cC5s l) * (Row 3 1 (.slice As ns cs) ns (ints SV) * (pts (w.heap.size + 1) (.cells #[.int .i64 0, .int .i64 0, .int .i64 0, .int .i64 0] 41 (0, 0)) * (pts w.heap.size (.cells #[.slice A bs.length c] 31 (0, 0)) * S)))))) (fun v _ => m - (intOf v).toNat)
  case atStart => exact ⟨0, Nat.zero_le _, rfl, inferInstance, HS4⟩
  case round =>
    obtain ⟨i, hi, rfl, HX, HS5⟩ := hrel
    by_cases hlt : i < m
    · obtain ⟨x, hs1⟩ := get_ex (xs := l) (k := i) (by rw [← HM.out]; exact hlt)
      obtain ⟨gc, rfl⟩ := Row.addr HS4.right (by omega)
      have e4 : ∀ F, CellAt (Row 85 5 (.slice (some ⟨gc, 0, none⟩) m cc) m (cC5s l) * F) gc (i * 5 + 3) (.int .i64 x.en) := fun F => Row.cellAt (cC5s_get hs1).2.2.2.1
      have hen := HEN.out x (List.mem_of_getElem? hs1)
      obtain ⟨qh, hqh⟩ : ∃ qh, SV.contains (i : Int) = qh := ⟨_, rfl⟩
      have HQH := Hd.mk hqh
      have HNX0 := HOY.out i x hs1
      obtain ⟨fn', up, df, en, va⟩ := x
      simp only at e4 hen HNX0
      have hle := fun k hk => endQ_le (O i) k hk
      have hol := HOL.out i
      obtain ⟨Q, hQ⟩ : ∃ Q, endQ (O i) = Q := ⟨_, rfl⟩
      rw [hQ] at HS5 hle
      have la : 0 ≤ Q.a ∧ Q.a ≤ 1000 := by have : 0 ≤ Q.a ∧ Q.a ≤ _ := hle 0 (by omega); omega
      have lb : 0 ≤ Q.b ∧ Q.b ≤ 1000 := by have : 0 ≤ Q.b ∧ Q.b ≤ _ := hle 1 (by omega); omega
      have lc : 0 ≤ Q.c ∧ Q.c ≤ 1000 := by have : 0 ≤ Q.c ∧ Q.c ≤ _ := hle 2 (by omega); omega
      have ld : 0 ≤ Q.d ∧ Q.d ≤ 1000 := by have : 0 ≤ Q.d ∧ Q.d ≤ _ := hle 3 (by omega); omega
      have hcase : en = 1 ∨ en = 2 ∨ en = 3 ∨ en = 4 := by omega
      clear hs1 hle hen
      cases qh
      · have HE2 : Hd (endQ (O (i + 1)) = Q) := ⟨by rw [HON.out i hqh, hQ]⟩
        clear hqh hQ hcase HNX0
        go_wp2_with (go_at_call 67; refine (HLH.out _ _ inferInstance inferInstance (i : Int) _ HQH.out).mono ?_; rintro e wz ⟨rfl, hz⟩; have hz2 := hz.symm; subst hz2; clear hz)
        go_roundw
        case rel => exact ⟨i + 1, by omega, by go_num, inferInstance, SepI.cast (Ent.sep (S := _) (T := pts (w.heap.size + 1 + 1) (.cells (q4 Q) 41 (0, 0)) * (Row 85 5 (.slice (some ⟨gc, 0, none⟩) m cc) m (cC5s l) * (Row 3 1 (.slice As ns cs) ns (ints SV) * (pts (w.heap.size + 1) (.cells #[.int .i64 0, .int .i64 0, .int .i64 0, .int .i64 0] 41 (0, 0)) * (pts w.heap.size (.cells #[.slice A bs.length c] 31 (0, 0)) * S))))) inferInstance inferInstance) (by rw [HE2.out])⟩
        case measure => (simp [intOf]; try omega)
      have HNX := HNX0 hqh
      clear hqh HNX0
      rcases hcase with rfl | rfl | rfl | rfl
      · have HQ2 : Hd (endQ (O (i + 1)) = Q.set 0 (Q.a + 1)) := ⟨by rw [HNX, endQ_next (O i) 1 0 (by omega) (by rfl), hQ]; rfl⟩
        have hw : IntKind.i64.wrap (Q.a + 1) = Q.a + 1 := IntWalk.i64_in _ (by omega)
        clear HNX hQ
        go_wp2_with (go_at_call 67; refine (HLH.out _ _ inferInstance inferInstance (i : Int) _ HQH.out).mono ?_; rintro e wz ⟨rfl, hz⟩; have hz2 := hz.symm; subst hz2; clear hz)
        go_roundw
        case rel => exact ⟨i + 1, by omega, by go_num, inferInstance, SepI.cast (Ent.sep (S := _) (T := pts (w.heap.size + 1 + 1) (.cells ((q4 Q).setIfInBounds 0 (.int .i64 (Q.a + 1))) 41 (0, 0)) * (Row 85 5 (.slice (some ⟨gc, 0, none⟩) m cc) m (cC5s l) * (Row 3 1 (.slice As ns cs) ns (ints SV) * (pts (w.heap.size + 1) (.cells #[.int .i64 0, .int .i64 0, .int .i64 0, .int .i64 0] 41 (0, 0)) * (pts w.heap.size (.cells #[.slice A bs.length c] 31 (0, 0)) * S))))) inferInstance inferInstance) (by rw [HQ2.out]; rfl)⟩
        case measure => (simp [intOf]; try omega)
      · have HQ2 : Hd (endQ (O (i + 1)) = Q.set 1 (Q.b + 1)) := ⟨by rw [HNX, endQ_next (O i) 2 1 (by omega) (by rfl), hQ]; rfl⟩
        have hw : IntKind.i64.wrap (Q.b + 1) = Q.b + 1 := IntWalk.i64_in _ (by omega)
        clear HNX hQ
        go_wp2_with (go_at_call 67; refine (HLH.out _ _ inferInstance inferInstance (i : Int) _ HQH.out).mono ?_; rintro e wz ⟨rfl, hz⟩; have hz2 := hz.symm; subst hz2; clear hz)
        go_roundw
        case rel => exact ⟨i + 1, by omega, by go_num, inferInstance, SepI.cast (Ent.sep (S := _) (T := pts (w.heap.size + 1 + 1) (.cells ((q4 Q).setIfInBounds 1 (.int .i64 (Q.b + 1))) 41 (0, 0)) * (Row 85 5 (.slice (some ⟨gc, 0, none⟩) m cc) m (cC5s l) * (Row 3 1 (.slice As ns cs) ns (ints SV) * (pts (w.heap.size + 1) (.cells #[.int .i64 0, .int .i64 0, .int .i64 0, .int .i64 0] 41 (0, 0)) * (pts w.heap.size (.cells #[.slice A bs.length c] 31 (0, 0)) * S))))) inferInstance inferInstance) (by rw [HQ2.out]; rfl)⟩
        case measure => (simp [intOf]; try omega)
      · have HQ2 : Hd (endQ (O (i + 1)) = Q.set 2 (Q.c + 1)) := ⟨by rw [HNX, endQ_next (O i) 3 2 (by omega) (by rfl), hQ]; rfl⟩
        have hw : IntKind.i64.wrap (Q.c + 1) = Q.c + 1 := IntWalk.i64_in _ (by omega)
        clear HNX hQ
        go_wp2_with (go_at_call 67; refine (HLH.out _ _ inferInstance inferInstance (i : Int) _ HQH.out).mono ?_; rintro e wz ⟨rfl, hz⟩; have hz2 := hz.symm; subst hz2; clear hz)
        go_roundw
        case rel => exact ⟨i + 1, by omega, by go_num, inferInstance, SepI.cast (Ent.sep (S := _) (T := pts (w.heap.size + 1 + 1) (.cells ((q4 Q).setIfInBounds 2 (.int .i64 (Q.c + 1))) 41 (0, 0)) * (Row 85 5 (.slice (some ⟨gc, 0, none⟩) m cc) m (cC5s l) * (Row 3 1 (.slice As ns cs) ns (ints SV) * (pts (w.heap.size + 1) (.cells #[.int .i64 0, .int .i64 0, .int .i64 0, .int .i64 0] 41 (0, 0)) * (pts w.heap.size (.cells #[.slice A bs.length c] 31 (0, 0)) * S))))) inferInstance inferInstance) (by rw [HQ2.out]; rfl)⟩
        case measure => (simp [intOf]; try omega)
      · have HQ2 : Hd (endQ (O (i + 1)) = Q.set 3 (Q.d + 1)) := ⟨by rw [HNX, endQ_next (O i) 4 3 (by omega) (by rfl), hQ]; rfl⟩
        have hw : IntKind.i64.wrap (Q.d + 1) = Q.d + 1 := IntWalk.i64_in _ (by omega)
        clear HNX hQ
        go_wp2_with (go_at_call 67; refine (HLH.out _ _ inferInstance inferInstance (i : Int) _ HQH.out).mono ?_; rintro e wz ⟨rfl, hz⟩; have hz2 := hz.symm; subst hz2; clear hz)
        go_roundw
        case rel => exact ⟨i + 1, by omega, by go_num, inferInstance, SepI.cast (Ent.sep (S := _) (T := pts (w.heap.size + 1 + 1) (.cells ((q4 Q).setIfInBounds 3 (.int .i64 (Q.d + 1))) 41 (0, 0)) * (Row 85 5 (.slice (some ⟨gc, 0, none⟩) m cc) m (cC5s l) * (Row 3 1 (.slice As ns cs) ns (ints SV) * (pts (w.heap.size + 1) (.cells #[.int .i64 0, .int .i64 0, .int .i64 0, .int .i64 0] 41 (0, 0)) * (pts w.heap.size (.cells #[.slice A bs.length c] 31 (0, 0)) * S))))) inferInstance inferInstance) (by rw [HQ2.out]; rfl)⟩
        case measure => (simp [intOf]; try omega)
    · have : i = m := by omega
      subst this
      obtain ⟨Q, hQ⟩ : ∃ Q, endQ (O i) = Q := ⟨_, rfl⟩
      rw [hQ] at HS5
      have HQ := Hd.mk hQ
      clear hQ
      go_wp2
      refine bodyPost_ret (v := .tuple #[.agg #[.int .i64 Q.a, .int .i64 Q.b, .int .i64 Q.c, .int .i64 Q.d], .bool true]) (by simp [results, Try.results28, go_sem]) rfl ?_
      exact ⟨by rw [HQ.out]; rfl, Post.mk' (Ent.sep (S := _) (T := S) inferInstance inferInstance) inferInstance⟩
def val_SavedEnds (L : List (List St)) (fn arg fuel : Int) : (Int × Int × Int × Int) × Bool := if askB L fn arg fuel then endV (savQ (ranM L fn arg fuel.toNat).m) true else ((0, 0, 0, 0), false)
theorem val_SavedEnds_no {L : List (List St)} {fn arg fuel : Int} (h : askB L fn arg fuel = false) : val_SavedEnds L fn arg fuel = ((0, 0, 0, 0), false) := by unfold val_SavedEnds; rw [h]; rfl
theorem val_SavedEnds_yes {L : List (List St)} {fn arg : Int} {fu : Nat} (h : askB L fn arg fu = true) : val_SavedEnds L fn arg fu = endV (savQ (ranM L fn arg fu).m) true := by unfold val_SavedEnds; rw [if_pos h, Int.toNat_natCast]
theorem impl_SavedEndsA (S : HP) (w : World) [H : SepI w S] (A : Option Addr) (c : Nat) (bs : List Bd) [r : Rd S A (cBds bs)] [B : Bodies S bs] (fn arg fuel : Int) :
    Calls Try.prog 29 #[.agg #[.slice A bs.length c], .int .i64 fn, .int .i64 arg, .int .i64 fuel] w (A4Ok S (val_SavedEnds (bs.map (·.l)) fn arg fuel) w) := by
  obtain ⟨v, hv⟩ : ∃ v, askB (bs.map (·.l)) fn arg fuel = v := ⟨_, rfl⟩
  cases v
  · rw [val_SavedEnds_no hv]; exact impl_SavedEndsN S w A c bs fn arg fuel hv
  · obtain ⟨fu, rfl⟩ : ∃ fu : Nat, fuel = fu := ⟨fuel.toNat, by have := (askB_of hv).2.2.2.1; omega⟩
    rw [val_SavedEnds_yes hv]; exact impl_SavedEndsV S w A c bs fn arg fu _ rfl hv
theorem spec_SavedEndsA (S : HP) (w : World) [H : SepI w S] (A : Option Addr) (c : Nat) (bs : List Bd) [r : Rd S A (cBds bs)] [B : Bodies S bs] (hnn : NoneNil bs) (fn arg fuel : Int) :
    Calls Try.prog 28 #[.agg #[.slice A bs.length c], .int .i64 fn, .int .i64 arg, .int .i64 fuel] w (A4Ok S (val_SavedEnds (bs.map (·.l)) fn arg fuel) w) := by
  obtain ⟨v, hv⟩ : ∃ v, askB (bs.map (·.l)) fn arg fuel = v := ⟨_, rfl⟩
  cases v
  · rw [val_SavedEnds_no hv]; exact spec_SavedEndsN S w A c bs hnn fn arg fuel hv
  · obtain ⟨fu, rfl⟩ : ∃ fu : Nat, fuel = fu := ⟨fuel.toNat, by have := (askB_of hv).2.2.2.1; omega⟩
    rw [val_SavedEnds_yes hv]; exact spec_SavedEndsV S w A c bs hnn fn arg fu _ rfl hv
end Go.Proofs.Ytobikkdnalnllaa
