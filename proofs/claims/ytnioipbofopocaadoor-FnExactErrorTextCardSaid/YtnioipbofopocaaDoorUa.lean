/- Numbers read out of texts: the library's Atoi and the numeral's way back. Conditions: none; plain lemmas. -/
import Derived.Test.YtnioipbofopocaaDoorTn
import Derived.Lib.Atoi
import Derived.Lib.AtoiAll
import Derived.Lib.AtoiAllCases
namespace Go.Proofs.YtnioipbofopocaaDoor
open Go.RowKit SL
set_option linter.unusedVariables false
set_option linter.unusedSimpArgs false

theorem decFrom_append : ∀ (l m : List UInt8) (acc : Nat), Lib.decFrom acc (l ++ m) = (Lib.decFrom acc l).bind fun n => Lib.decFrom n m
  | [], m, acc => rfl
  | c :: l, m, acc => by
    simp only [List.cons_append, Lib.decFrom]
    cases Lib.digitVal c with
    | none => rfl
    | some d => exact decFrom_append l m _
theorem digit_dig : ∀ i : Nat, i < 10 → Lib.digitVal (UInt8.ofNat (48 + i)) = some i := by decide
theorem decFrom_digits (u : Nat) : Lib.decFrom 0 (Lib.decDigits u) = some u := by
  induction u using Nat.strongRecOn with
  | _ u ih =>
    by_cases h : u < 10
    · rw [Lib.decDigits_one h]
      simp only [Lib.decFrom, digit_dig u h, Nat.zero_mul, Nat.zero_add]
    · rw [decDigits_more h, decFrom_append, ih (u / 10) (by omega), Lib.decDigits_one (i := u % 10) (by omega)]
      simp only [Option.bind_some, Lib.decFrom, digit_dig (u % 10) (by omega), Option.some.injEq]
      omega
theorem decFrom_ge : ∀ (l : List UInt8) (acc n : Nat), Lib.decFrom acc l = some n → acc ≤ n
  | [], acc, n, h => by simp only [Lib.decFrom, Option.some.injEq] at h; omega
  | c :: l, acc, n, h => by
    simp only [Lib.decFrom] at h
    cases hd : Lib.digitVal c with
    | none => rw [hd] at h; cases h
    | some d => rw [hd] at h; have := decFrom_ge l _ n h; omega
theorem parse_dec : ∀ (l : List UInt8) (acc n : Nat), Lib.decFrom acc l = some n → n < 1000000000 → Lib.parseUint10 acc l = .ok n
  | [], acc, n, h, hn => by simp only [Lib.decFrom, Option.some.injEq] at h; simp [Lib.parseUint10, h]
  | c :: l, acc, n, h, hn => by
    simp only [Lib.decFrom] at h
    cases hd : Lib.digitVal c with
    | none => rw [hd] at h; cases h
    | some d =>
      rw [hd] at h
      have hge := decFrom_ge l _ n h
      obtain ⟨h1, h2, h3⟩ := Lib.digitVal_eq hd
      subst h3
      rw [Lib.parseUint10, if_pos ⟨h1, h2⟩, if_neg (by omega), if_neg (by omega)]
      exact parse_dec l _ n h hn
theorem digits_ne (u : Nat) : Lib.decDigits u ≠ [] := fun e => by
  have := Lib.decDigits_length u
  rw [e] at this
  have := Lib.nDigits_pos u
  simp at *
  omega
theorem digits_at {u k : Nat} {c : UInt8} (h : (Lib.decDigits u)[k]? = some c) : 48 ≤ c.toNat ∧ c.toNat ≤ 57 := by
  obtain ⟨d, hd⟩ := Lib.digit_of_decFrom _ 0 u (decFrom_digits u) k c h
  exact ⟨(Lib.digitVal_eq hd).1, (Lib.digitVal_eq hd).2.1⟩
theorem nDigits_le : ∀ (k u : Nat), u < 10 ^ (k + 1) → Lib.nDigits u ≤ k + 1
  | 0, u, h => by rw [Lib.nDigits_small (by simpa using h)]; exact Nat.le_refl _
  | k + 1, u, h => by
    by_cases h10 : u < 10
    · rw [Lib.nDigits_small h10]; omega
    · rw [Lib.nDigits_big h10]
      have := nDigits_le k (u / 10) (by rw [Nat.pow_succ] at h; omega)
      omega
theorem digits_len6 {u : Nat} (h : u ≤ 999999) : 1 ≤ (Lib.decDigits u).length ∧ (Lib.decDigits u).length ≤ 6 := by
  rw [Lib.decDigits_length]
  exact ⟨Lib.nDigits_pos u, nDigits_le 5 u (by omega)⟩
theorem numB_data (n : Int) : (numB n).data.toList = Lib.itoa n := by simp [numB, mkT]
/-- A text is the numeral of a number within bounds. -/
def IsNum (s : ByteArray) (n : Int) : Prop := -999999 ≤ n ∧ n ≤ 999999 ∧ numB n = s
theorem atoi_itoa {n : Int} (h0 : -999999 ≤ n) (h1 : n ≤ 999999) : Lib.atoiAll (Lib.itoa n) = .ok n := by
  by_cases hn : n < 0
  · obtain ⟨u, rfl⟩ : ∃ u : Nat, n = -(u : Int) := ⟨n.natAbs, by omega⟩
    rw [Lib.itoa_neg u (by omega), Lib.atoiAll_minus, Lib.parseMag, if_neg (digits_ne u), parse_dec _ 0 u (decFrom_digits u) (by omega)]
    simp only [Lib.signed]
    rw [if_neg (by omega)]
  · obtain ⟨u, rfl⟩ : ∃ u : Nat, n = (u : Int) := ⟨n.toNat, by omega⟩
    rw [Lib.itoa_nonneg]
    cases hd : Lib.decDigits u with
    | nil => exact absurd hd (digits_ne u)
    | cons c r =>
      have hc := digits_at (u := u) (k := 0) (c := c) (by rw [hd]; rfl)
      have hp : Lib.parseMag (c :: r) = .ok u := by rw [← hd, Lib.parseMag, if_neg (digits_ne u), parse_dec _ 0 u (decFrom_digits u) (by omega)]
      rw [Lib.atoiAll_plain c r (by omega) (by omega), hp]
      simp only [Lib.signless]
      rw [if_neg (by omega)]
/-- What is read out of a text. -/
def ans_Int (s : ByteArray) : Int × Bool := match Lib.atoiAll s.data.toList with
  | .ok v => if -999999 ≤ v ∧ v ≤ 999999 ∧ numB v = s then (v, true) else (0, false)
  | _ => (0, false)
theorem ans_Int_yes {s : ByteArray} {n : Int} (h : IsNum s n) : ans_Int s = (n, true) := by
  have e : Lib.atoiAll s.data.toList = .ok n := by rw [← h.2.2, numB_data]; exact atoi_itoa h.1 h.2.1
  unfold ans_Int
  rw [e]
  exact if_pos h
theorem ans_Int_no {s : ByteArray} (h : ∀ n, ¬ IsNum s n) : ans_Int s = (0, false) := by
  unfold ans_Int
  split
  · rename_i v _
    exact if_neg (h v)
  · rfl
theorem ans_Int_of {s : ByteArray} {v : Int} (h : ans_Int s = (v, true)) : IsNum s v := by
  unfold ans_Int at h
  split at h
  · split at h
    · rename_i v' _ h2
      simp only [Prod.mk.injEq] at h
      rw [← h.1]
      exact h2
    · cases h
  · cases h
theorem ans_Int_off {s : ByteArray} {v : Int} (h : ans_Int s = (v, false)) : v = 0 ∧ ∀ n, ¬ IsNum s n := by
  refine ⟨?_, fun n hn => by rw [ans_Int_yes hn] at h; cases h⟩
  unfold ans_Int at h
  split at h
  · split at h
    · cases h
    · exact (congrArg Prod.fst h).symm
  · exact (congrArg Prod.fst h).symm
theorem ans_Int_case (s : ByteArray) : (∃ n, IsNum s n ∧ ans_Int s = (n, true)) ∨ ((∀ n, ¬ IsNum s n) ∧ ans_Int s = (0, false)) := by
  by_cases h : ∃ n, IsNum s n
  · obtain ⟨n, hn⟩ := h
    exact .inl ⟨n, hn, ans_Int_yes hn⟩
  · exact .inr ⟨fun n hn => h ⟨n, hn⟩, ans_Int_no fun n hn => h ⟨n, hn⟩⟩
/-- What stands behind the sign: the reference's way. -/
def tailI (l : List UInt8) : List UInt8 := if 1 < l.length ∧ l[0]? = some 45 then l.drop 1 else l
theorem tailI_neg {l : List UInt8} (h : 1 < l.length) (h2 : l[0]? = some 45) : tailI l = l.drop 1 := if_pos ⟨h, h2⟩
theorem tailI_pos {l : List UInt8} (h : ¬ (1 < l.length ∧ l[0]? = some 45)) : tailI l = l := if_neg h
theorem isNum_tail {s : ByteArray} {n : Int} (h : IsNum s n) : 1 ≤ (tailI s.data.toList).length ∧ (tailI s.data.toList).length ≤ 6 ∧ Lib.decFrom 0 (tailI s.data.toList) = some n.natAbs ∧ ((tailI s.data.toList).length < s.data.toList.length ↔ n < 0) := by
  obtain ⟨h0, h1, rfl⟩ := h
  rw [numB_data]
  by_cases hn : n < 0
  · obtain ⟨u, rfl⟩ : ∃ u : Nat, n = -(u : Int) := ⟨n.natAbs, by omega⟩
    obtain ⟨l1, l2⟩ := digits_len6 (u := u) (by omega)
    rw [Lib.itoa_neg u (by omega), tailI_neg (by rw [List.length_cons]; omega) rfl, List.drop_one, List.tail_cons]
    refine ⟨l1, l2, by rw [decFrom_digits]; congr 1; omega, fun _ => hn, fun _ => by rw [List.length_cons]; omega⟩
  · obtain ⟨u, rfl⟩ : ∃ u : Nat, n = (u : Int) := ⟨n.toNat, by omega⟩
    obtain ⟨l1, l2⟩ := digits_len6 (u := u) (by omega)
    rw [Lib.itoa_nonneg, tailI_pos (fun hh => by have := digits_at hh.2; simp at this)]
    refine ⟨l1, l2, by rw [decFrom_digits]; congr 1, fun hh => absurd hh (Nat.lt_irrefl _), fun hh => absurd hh hn⟩
end Go.Proofs.YtnioipbofopocaaDoor
