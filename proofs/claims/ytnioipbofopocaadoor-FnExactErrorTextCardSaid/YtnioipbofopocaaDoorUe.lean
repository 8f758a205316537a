/- Texts of errors: what both ways tell. Conditions: none; plain lemmas. -/
import Derived.Test.YtnioipbofopocaaDoorUc
import Derived.Test.YtnioipbofopocaaDoorSb
import Derived.Test.YtnioipbofopocaaDoorDf
namespace Go.Proofs.YtnioipbofopocaaDoor
open Go.RowKit SL
set_option linter.unusedVariables false
set_option linter.unusedSimpArgs false

/-- A table of texts, told from its end: m entries are told. -/
def tabS (n : Nat) (of : Nat → List ByteArray → ByteArray) : Nat → List ByteArray
  | 0 => List.replicate n ByteArray.empty
  | m + 1 => (tabS n of m).set (n - 1 - m) (of (n - 1 - m) (tabS n of m))
theorem tabS_len (n : Nat) (of : Nat → List ByteArray → ByteArray) (m : Nat) : (tabS n of m).length = n := by
  induction m with
  | zero => simp [tabS]
  | succ m ih => simp [tabS, ih]
theorem tabS_next {n k : Nat} (of : Nat → List ByteArray → ByteArray) (h : k < n) : tabS n of (n - k) = (tabS n of (n - (k + 1))).set k (of k (tabS n of (n - (k + 1)))) := by
  rw [show n - k = (n - (k + 1)) + 1 from by omega, tabS, show n - 1 - (n - (k + 1)) = k from by omega]
theorem tabS_keep (n : Nat) (of : Nat → List ByteArray → ByteArray) : ∀ (d m : Nat), m + d = n → ∀ j, n - m ≤ j → (tabS n of m)[j]? = (tabS n of n)[j]?
  | 0, m, h, j, hj => by rw [show m = n from by omega]
  | d + 1, m, h, j, hj => by
    rw [← tabS_keep n of d (m + 1) (by omega) j (by omega)]
    show _ = ((tabS n of m).set (n - 1 - m) (of (n - 1 - m) (tabS n of m)))[j]?
    rw [List.getElem?_set_ne (by omega)]
theorem tabS_at {n k : Nat} (of : Nat → List ByteArray → ByteArray) (h : k < n) : (tabS n of n)[k]? = some (of k (tabS n of (n - (k + 1)))) := by
  rw [← tabS_keep n of k (n - k) (by omega) k (by omega), tabS_next of h, List.getElem?_set_self (by rw [tabS_len]; exact h)]
def getB (known : List ByteArray) (p : Int) : ByteArray := known.getD p.toNat ByteArray.empty
theorem getB_of {known : List ByteArray} {q : Nat} {v : ByteArray} (h : known[q]? = some v) : getB known (q : Int) = v := by
  unfold getB
  rw [Int.toNat_natCast, List.getD_eq_getElem?_getD, h]; rfl
theorem getB_congr {known known' : List ByteArray} {q : Nat} (h : known[q]? = known'[q]?) : getB known (q : Int) = getB known' (q : Int) := by
  unfold getB
  rw [Int.toNat_natCast, List.getD_eq_getElem?_getD, List.getD_eq_getElem?_getD, h]
def partsT (known : List ByteArray) (l : List Int) : List ByteArray := l.map (getB known)
def dat (x : ByteArray) : List UInt8 := x.data.toList
theorem dat_len (x : ByteArray) : (dat x).length = x.size := data_len x
/-- The bytes of an error's text, by those of its parts. -/
def outT (x : EC) (ps : List ByteArray) : List UInt8 :=
  if x.1 = 1 then 101 :: Lib.itoa x.2.1
  else if x.1 = 4 then [108, 105, 107, 101] ++ Lib.itoa x.2.1
  else if x.1 = 2 then 119 :: Lib.itoa x.2.1 ++ [58, 32] ++ dat (ps.headD ByteArray.empty)
  else 91 :: Lib.join (ps.map dat) [59, 32] ++ [93]
/-- The text of an error; empty if it is too long. -/
def txtK (x : EC) (ps : List ByteArray) : ByteArray :=
  if (ps.any fun p => decide (p.size = 0)) = true then ByteArray.empty else if 400 < (outT x ps).length then ByteArray.empty else mkT (outT x ps)
def txtE (es : List EC) (k : Nat) (known : List ByteArray) : ByteArray := txtK (es.getD k (0, 0, [])) (partsT known ((es.getD k (0, 0, [])).2.2))
def texts (es : List EC) : List ByteArray := tabS es.length (txtE es) es.length
theorem outT_pos (x : EC) (ps : List ByteArray) : 0 < (outT x ps).length := by
  unfold outT
  split
  · simp
  split
  · simp
  split
  · simp
  · simp
theorem txtK_any {x : EC} {ps : List ByteArray} {j : Nat} {p : ByteArray} (h : ps[j]? = some p) (h0 : p.size = 0) : txtK x ps = ByteArray.empty := by
  unfold txtK
  rw [if_pos]
  rw [List.any_eq_true]
  exact ⟨p, List.mem_of_getElem? h, decide_eq_true h0⟩
theorem txtK_long {x : EC} {ps : List ByteArray} (h : 400 < (outT x ps).length) : txtK x ps = ByteArray.empty := by
  unfold txtK
  by_cases hq : (ps.any fun p => decide (p.size = 0)) = true
  · rw [if_pos hq]
  · rw [if_neg hq, if_pos h]
theorem txtK_yes {x : EC} {ps : List ByteArray} (h0 : ∀ (j : Nat) (p : ByteArray), ps[j]? = some p → p.size ≠ 0) (h : (outT x ps).length ≤ 400) : txtK x ps = mkT (outT x ps) := by
  unfold txtK
  rw [if_neg, if_neg (by omega)]
  rw [List.any_eq_true]
  rintro ⟨p, hp, h1⟩
  obtain ⟨j, hj⟩ := List.mem_iff_getElem?.1 hp
  exact h0 j p hj (of_decide_eq_true h1)
theorem txtK_size (x : EC) (ps : List ByteArray) : (txtK x ps).size ≤ 400 := by
  unfold txtK
  split
  · exact Nat.zero_le _
  split
  · exact Nat.zero_le _
  · rw [mkT_size]; omega
theorem tabS_size (es : List EC) : ∀ (m j : Nat) (v : ByteArray), (tabS es.length (txtE es) m)[j]? = some v → v.size ≤ 400
  | 0, j, v, h => by
    rw [tabS, List.getElem?_replicate] at h
    split at h <;> simp at h
    subst h; exact Nat.zero_le _
  | m + 1, j, v, h => by
    rw [tabS, List.getElem?_set] at h
    split at h
    · split at h
      · simp at h
        subst h
        exact txtK_size _ _
      · cases h
    · exact tabS_size es m j v h
theorem texts_len (es : List EC) : (texts es).length = es.length := tabS_len _ _ _
theorem texts_get {es : List EC} {k : Nat} (h : k < es.length) : ∃ v, (texts es)[k]? = some v := get_ex (by rw [texts_len]; exact h)
/-- Each text is told out of those of its parts. -/
theorem texts_at {es : List EC} (hv : errsB es = true) {k : Nat} {x : EC} (hx : es[k]? = some x) : (texts es)[k]? = some (txtK x (partsT (texts es) x.2.2)) := by
  have hk := (List.getElem?_eq_some_iff.1 hx).1
  unfold texts
  rw [tabS_at _ hk]
  unfold txtE
  rw [List.getD_eq_getElem?_getD, hx]
  simp only [Option.getD_some]
  congr 2
  unfold partsT
  apply List.map_congr_left
  intro p hp
  obtain ⟨j, hj⟩ := List.mem_iff_getElem?.1 hp
  obtain ⟨q, rfl, h1, h2⟩ := part_at hv hx hj
  exact getB_congr (tabS_keep es.length (txtE es) (k + 1) (es.length - (k + 1)) (by omega) q (by omega))
theorem partsT_get {known : List ByteArray} {l : List Int} {j q : Nat} {v : ByteArray} (h : l[j]? = some (q : Int)) (hv : known[q]? = some v) : (partsT known l)[j]? = some v := by
  unfold partsT
  rw [List.getElem?_map, h]
  exact congrArg some (getB_of hv)
theorem partsT_len (known : List ByteArray) (l : List Int) : (partsT known l).length = l.length := by simp [partsT]
theorem join_take_len (sep : List UInt8) (L : List (List UInt8)) (i : Nat) : (Lib.join (L.take i) sep).length ≤ (Lib.join L sep).length := by
  cases i with
  | zero => simp [Lib.join_nil]
  | succ i =>
    cases L with
    | nil => simp
    | cons x l =>
      rw [List.take_succ_cons, Lib.join_cons, Lib.join_cons, List.length_append, List.length_append]
      have : Lib.joinTail sep l = Lib.joinTail sep (l.take i) ++ Lib.joinTail sep (l.drop i) := by
        unfold Lib.joinTail
        rw [← List.flatten_append, ← List.map_append, List.take_append_drop]
      rw [this, List.length_append]
      omega
theorem join_bytes (sep : List UInt8) (ps : List ByteArray) : bytesN ps ≤ (Lib.join (ps.map dat) sep).length := by
  cases ps with
  | nil => exact Nat.zero_le _
  | cons x l =>
    have key : ∀ r : List ByteArray, bytesN r ≤ (Lib.joinTail sep (r.map dat)).length := by
      intro r
      induction r with
      | nil => exact Nat.zero_le _
      | cons y r ih =>
        have e : Lib.joinTail sep ((y :: r).map dat) = sep ++ dat y ++ Lib.joinTail sep (r.map dat) := by simp [Lib.joinTail]
        rw [e, List.length_append, List.length_append, dat_len]
        simp only [bytesN]
        omega
    have := key l
    rw [List.map_cons, Lib.join_cons, List.length_append, dat_len]
    simp only [bytesN]
    omega
/-- How many parts an error has, by its kind. -/
theorem kind_cases {es : List EC} (hv : errsB es = true) {k : Nat} {x : EC} (hx : es[k]? = some x) : (0 ≤ x.2.1 ∧ x.2.1 ≤ 99) ∧ x.2.2.length ≤ 12 ∧
    ((x.1 = 1 ∧ x.2.2.length = 0) ∨ (x.1 = 4 ∧ x.2.2.length = 0) ∨ (x.1 = 2 ∧ x.2.2.length = 1) ∨ (x.1 = 3 ∧ 1 ≤ x.2.2.length)) := by
  unfold errsB at hv
  simp only [Bool.and_eq_true] at hv
  have h1 := nodesB_at hv.2 hx
  unfold nodeB at h1
  simp only [Bool.and_eq_true, decide_eq_true_eq] at h1
  refine ⟨inB_true h1.2.1, h1.2.2.1, ?_⟩
  have h2 := h1.1
  unfold kindB at h2
  split at h2
  · rename_i h
    have := of_decide_eq_true h2
    rcases h with h | h
    · exact .inl ⟨h, this⟩
    · exact .inr (.inl ⟨h, this⟩)
  split at h2
  · rename_i h
    exact .inr (.inr (.inl ⟨h, of_decide_eq_true h2⟩))
  split at h2
  · rename_i h
    simp only [Bool.and_eq_true, decide_eq_true_eq] at h2
    exact .inr (.inr (.inr ⟨h, h2.1⟩))
  · cases h2
theorem outT_bytes {x : EC} {ps : List ByteArray} (hl : ps.length = x.2.2.length) (hk : (x.1 = 1 ∧ x.2.2.length = 0) ∨ (x.1 = 4 ∧ x.2.2.length = 0) ∨ (x.1 = 2 ∧ x.2.2.length = 1) ∨ (x.1 = 3 ∧ 1 ≤ x.2.2.length)) : bytesN ps ≤ (outT x ps).length := by
  have z : ∀ ps : List ByteArray, ps.length = 0 → bytesN ps = 0 := fun ps h => by rw [List.eq_nil_of_length_eq_zero h]; rfl
  rcases hk with ⟨h, h0⟩ | ⟨h, h0⟩ | ⟨h, h0⟩ | ⟨h, h0⟩
  · rw [z ps (by omega)]; exact Nat.zero_le _
  · rw [z ps (by omega)]; exact Nat.zero_le _
  · unfold outT
    rw [if_neg (by omega), if_neg (by omega), if_pos h]
    match ps, (by omega : ps.length = 1) with
    | [p], _ =>
      simp only [bytesN, List.headD_cons, List.length_append, List.length_cons, dat_len]
      omega
  · unfold outT
    rw [if_neg (by omega), if_neg (by omega), if_neg (by omega)]
    have := join_bytes [59, 32] ps
    simp only [List.length_append, List.length_cons, List.length_nil]
    omega
/-- The text of an error with a number. -/
def ans_ErrText (es : List EC) (n : Int) : ByteArray × Bool := if hasB es [n] = true then (getB (texts es) n, decide ((getB (texts es) n).size ≠ 0)) else (ByteArray.mk #[], false)
end Go.Proofs.YtnioipbofopocaaDoor
