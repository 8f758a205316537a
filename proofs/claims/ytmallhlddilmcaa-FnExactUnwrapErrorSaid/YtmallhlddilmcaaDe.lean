/- DepthOf: the program's way and the reference's. Conditions: lengths within bounds. -/
import Derived.Test.YtmallhlddilmcaaTb
namespace Go.Proofs.Ytmallhlddilmcaa
open Go.RowKit SL
attribute [local go_sem] cell_blk frozen_blk lt_blk cell_at frozen_row lt_row
set_option linter.unusedVariables false
set_option linter.unusedSimpArgs false

/-- The depth of an error, if those of its parts are told. -/
def dF (known : List Int) (l : List Int) : Int := l.foldl (fun m p => max m (known.getD p.toNat 0)) 0
def depthE (es : List EC) (k : Nat) (known : List Int) : Int := dF known ((es.getD k (0, 0, [])).2.2) + 1
def depths (es : List EC) : List Int := tabF es.length (depthE es) es.length
theorem dF_snoc {known l : List Int} {j : Nat} {p : Int} (h : l[j]? = some p) : dF known (l.take (j + 1)) = max (dF known (l.take j)) (known.getD p.toNat 0) := by
  rw [take_succ_eq h]; simp [dF, List.foldl_append]
theorem dF_le {known : List Int} {m : Int} (hm : 0 ≤ m) (h : ∀ (j : Nat) (v : Int), known[j]? = some v → 0 ≤ v ∧ v ≤ m) (l : List Int) : 0 ≤ dF known l ∧ dF known l ≤ m := by
  unfold dF
  have key : ∀ (l : List Int) (a : Int), 0 ≤ a ∧ a ≤ m → 0 ≤ l.foldl (fun m p => max m (known.getD p.toNat 0)) a ∧ l.foldl (fun m p => max m (known.getD p.toNat 0)) a ≤ m := by
    intro l
    induction l with
    | nil => intro a h; exact h
    | cons p l ih =>
      intro a ha
      refine ih _ ?_
      show 0 ≤ max a (known.getD p.toNat 0) ∧ max a (known.getD p.toNat 0) ≤ m
      cases hp : known[p.toNat]? with
      | none => rw [List.getD_eq_getElem?_getD, hp]; simp only [Option.getD_none]; omega
      | some v => rw [List.getD_eq_getElem?_getD, hp]; have := h _ _ hp; simp only [Option.getD_some]; omega
  exact key l 0 ⟨Int.le_refl _, hm⟩
theorem depths_le (es : List EC) : ∀ (m : Nat) (j : Nat) (v : Int), (tabF es.length (depthE es) m)[j]? = some v → 0 ≤ v ∧ v ≤ m
  | 0, j, v, h => by
    rw [tabF, List.getElem?_replicate] at h
    split at h <;> simp at h
    subst h; omega
  | m + 1, j, v, h => by
    rw [tabF, List.getElem?_set] at h
    split at h
    · split at h
      · simp at h
        subst h
        have e : depthE es (es.length - 1 - m) (tabF es.length (depthE es) m) = dF (tabF es.length (depthE es) m) ((es.getD (es.length - 1 - m) (0, 0, [])).2.2) + 1 := rfl
        rw [e]
        have := dF_le (known := tabF es.length (depthE es) m) (m := (m : Int)) (by omega) (fun j v h => depths_le es m j v h) ((es.getD (es.length - 1 - m) (0, 0, [])).2.2)
        omega
      · cases h
    · have := depths_le es m j v h; omega

theorem getD_of {l : List Int} {k : Nat} {v : Int} (h : l[k]? = some v) : l.getD k 0 = v := by rw [List.getD_eq_getElem?_getD, h]; rfl
/-- In valid errors each part stands behind its error. -/
theorem nodesB_at {n : Nat} : ∀ {l : List EC} {i k : Nat} {x : EC}, nodesB n i l = true → l[k]? = some x → nodeB n (i + k) x = true
  | [], i, k, x, _, h => by simp at h
  | y :: l, i, 0, x, hb, h => by simp at h; subst h; simp [nodesB] at hb; exact hb.1
  | y :: l, i, k + 1, x, hb, h => by
    simp [nodesB] at hb
    have := nodesB_at hb.2 (by simpa using h)
    rw [show i + (k + 1) = i + 1 + k from by omega]; exact this
theorem part_at {es : List EC} (hv : errsB es = true) {k : Nat} {x : EC} (hx : es[k]? = some x) {j : Nat} {p : Int} (hp : x.2.2[j]? = some p) : ∃ q : Nat, p = q ∧ k < q ∧ q < es.length := by
  unfold errsB at hv
  simp only [Bool.and_eq_true] at hv
  have h1 := nodesB_at hv.2 hx
  unfold nodeB partsB at h1
  simp only [Bool.and_eq_true, List.all_eq_true] at h1
  have h2 := inB_true (h1.2.2.2 p (List.mem_of_getElem? hp))
  exact ⟨p.toNat, by omega, by omega, by omega⟩
theorem small_of {es : List EC} (hv : errsB es = true) : 1 ≤ es.length ∧ es.length ≤ 12 := by
  unfold errsB at hv
  simp only [Bool.and_eq_true] at hv
  have := inB_true hv.1
  omega

theorem enters_depth : Enters 75 := fun _ _ => by go_simp
set_option maxRecDepth 100000 in
set_option maxHeartbeats 4000000 in
theorem impl_Depth1 (S : HP) (w : World) [H : SepI w S] (be : Nat) (A : Option Addr) (c : Nat) (es : List EN) (b k : Nat) (known : List Int) (hv : errsB (es.map ecOf) = true) [r : Rd S A (cENs es)] [B : Nodes S es]
    [HasBlk S be (.cells #[.slice A es.length c] 40 (0, 0))] [rk : Rd S (some ⟨b, 0, none⟩) (ints known)] (hk : k < es.length) (hl : known.length = es.length) (hb : ∀ (j : Nat) (v : Int), known[j]? = some v → 0 ≤ v ∧ v ≤ 12) :
    Calls Try.prog 75 #[.int .i64 k, .slice (some ⟨b, 0, none⟩) es.length es.length, .pointer (some ⟨be, 0, none⟩)] w fun e w' => e = .returned (.int .i64 (depthE (es.map ecOf) k known)) ∧ Post w S w' := by
  obtain ⟨x, hx⟩ := get_ex (xs := es) (k := k) hk
  obtain ⟨n, hn⟩ : ∃ n, n = es.length := ⟨_, rfl⟩
  obtain ⟨m, hm⟩ : ∃ m, m = x.l.length := ⟨_, rfl⟩
  have hd : depthE (es.map ecOf) k known = dF known x.l + 1 := by unfold depthE; rw [List.getD_eq_getElem?_getD, List.getElem?_map, hx]; rfl
  rw [hd, ← hn]
  obtain ⟨b0, off, rfl⟩ := r.addr H (j := k) (by rw [cENs_len]; omega)
  have c1 := r.cell (cENs_get hx).1
  have c2 := r.cell (cENs_get hx).2.1
  have c3 := r.cell (cENs_get hx).2.2
  have rx := B.rd x (List.mem_of_getElem? hx)
  have sx := B.small x (List.mem_of_getElem? hx)
  have HB := Hd.mk B
  have HV := Hd.mk hv
  have HX := Hd.mk hx
  have HL := Hd.mk hl
  have HK := Hd.mk hb
  have HN := Hd.mk hn
  have HM := Hd.mk hm
  have hs := small_of hv
  rw [List.length_map, ← hn] at hs
  rw [← hn] at hk
  rw [← hm] at c3 sx
  have hbx := dF_le (known := known) (m := 12) (by omega) hb
  have HBX := Hd.mk hbx
  clear B hv hx hl hb hm hbx hd
  rename HasBlk _ _ _ => hbk
  rw [← hn] at hbk
  clear hn
  obtain ⟨p, hp⟩ : ∃ p, p = x.p := ⟨_, rfl⟩
  rw [← hp] at c3 rx
  have HPX := Hd.mk hp
  clear hp
  go_enter Try.func75, Try.ntmps75
  go_wp2
  go_loopw [6, 16] (fun v i wr => ∃ j : Nat, j ≤ m ∧ i = .int .i64 j ∧ v = .int .i64 (dF known (x.l.take j)) ∧ SepI wr S ∧ ExtI w wr) (fun _ i _ => m - (intOf i).toNat)
  case atStart => exact ⟨0, Nat.zero_le _, rfl, rfl, inferInstance, inferInstance⟩
  case round =>
    obtain ⟨j, hj, rfl, rfl, HS, HE⟩ := hrel
    by_cases hlt : j < m
    · obtain ⟨y, hy⟩ := get_ex (xs := x.l) (k := j) (by rw [← HM.out]; exact hlt)
      obtain ⟨q, rfl, hq1, hq2⟩ := part_at HV.out (k := k) (x := ecOf x) (by rw [List.getElem?_map, HX.out]; rfl) hy
      rw [List.length_map, ← HN.out] at hq2
      obtain ⟨bp, op, rfl⟩ := rx.addr HS (j := j) (by rw [ints_len, ← HM.out]; omega)
      have c4 := rx.cell (ints_get hy)
      obtain ⟨v, hv⟩ := get_ex (xs := known) (k := q) (by rw [HL.out, ← HN.out]; exact hq2)
      have c5 := rk.cell (ints_get hv)
      rw [Nat.zero_add] at c5
      have HY := Hd.mk (dF_snoc (known := known) hy)
      have HG := Hd.mk (getD_of hv)
      have hvb := HK.out _ _ hv
      have hjb := HBX.out (x.l.take j)
      clear hy hv
      go_wp2
      go_roundw
      case rel => exact ⟨j + 1, by omega, by go_num, by rw [HY.out, Int.toNat_natCast, HG.out]; exact congrArg (Value.int IntKind.i64) (by split <;> omega), inferInstance, inferInstance⟩
      case measure => simp [intOf]; omega
    · have : j = m := by omega
      subst this
      have hjb := HBX.out (x.l.take j)
      go_wp2
      go_ret
      exact ⟨ret_i (by rw [HM.out, List.take_length]), Post.mk' inferInstance inferInstance⟩
end Go.Proofs.Ytmallhlddilmcaa
