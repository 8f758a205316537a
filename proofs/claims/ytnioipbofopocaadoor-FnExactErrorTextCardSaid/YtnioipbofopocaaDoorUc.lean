/- Texts of programs, and programs out of texts. Conditions: none; plain lemmas. -/
import Derived.Test.YtnioipbofopocaaDoorUa
import Derived.Test.YtnioipbofopocaaDoorTs
import Derived.Test.YtnioipbofopocaaDoorIc
import Derived.Lib.Join
import Derived.Lib.JoinLaws
namespace Go.Proofs.YtnioipbofopocaaDoor
open Go.RowKit SL
set_option linter.unusedVariables false
set_option linter.unusedSimpArgs false

theorem joinTail_end (sep : List UInt8) (r : List (List UInt8)) (y : List UInt8) : Lib.joinTail sep (r ++ [y]) = Lib.joinTail sep r ++ sep ++ y := by simp [Lib.joinTail]
theorem join_end {L : List (List UInt8)} (hL : L ≠ []) (x sep : List UInt8) : Lib.join (L ++ [x]) sep = Lib.join L sep ++ sep ++ x := by
  cases L with
  | nil => exact absurd rfl hL
  | cons y l =>
    rw [List.cons_append, Lib.join_cons, Lib.join_cons, joinTail_end]
    simp
theorem join_last (L : List (List UInt8)) (x y sep : List UInt8) : Lib.join (L ++ [x ++ y]) sep = Lib.join (L ++ [x]) sep ++ y := by
  by_cases h : L = []
  · subst h; simp [Lib.join_one]
  · rw [join_end h, join_end h, List.append_assoc, List.append_assoc, List.append_assoc]
/-- A text is its parts, joined. -/
theorem join_split (b : UInt8) (l : List UInt8) : Lib.join (splitL b l) [b] = l := by
  have key : ∀ (n : Nat) (l : List UInt8), l.length = n → Lib.join ((splF b l).1 ++ [(splF b l).2]) [b] = l := by
    intro n
    induction n with
    | zero =>
      intro l h
      rw [List.eq_nil_of_length_eq_zero h]
      exact Lib.join_one _ _
    | succ n ih =>
      intro l h
      obtain ⟨c, hc⟩ := get_ex (xs := l) (k := n) (by omega)
      have e : l = l.take n ++ [c] := by rw [← take_succ_eq hc, ← h, List.take_length]
      have hi := ih (l.take n) (by rw [List.length_take]; omega)
      have hs : splF b l = splS b (splF b (l.take n)) c := by
        have h2 := splF_next (b := b) hc
        have e2 : l.take (n + 1) = l := by rw [← h, List.take_length]
        rw [e2] at h2
        exact h2
      rw [hs]
      unfold splS
      split
      · rename_i hcb
        subst hcb
        simp only
        rw [join_end (by simp), hi, List.append_nil]
        exact e.symm
      · simp only
        rw [join_last, hi]
        exact e.symm
  exact key _ l rfl
/-- One after the other, if none fails. -/
def allM {α β : Type} (f : α → Option β) : List α → Option (List β)
  | [] => some []
  | x :: l => (f x).bind fun y => (allM f l).map (y :: ·)
theorem allM_snoc {α β : Type} (f : α → Option β) (l : List α) (x : α) : allM f (l ++ [x]) = (allM f l).bind fun ys => (f x).map fun y => ys ++ [y] := by
  induction l with
  | nil => simp only [List.nil_append, allM]; cases f x <;> rfl
  | cons z l ih =>
    simp only [List.cons_append, allM, ih]
    cases f z with
    | none => rfl
    | some y =>
      cases allM f l with
      | none => rfl
      | some ys => cases f x <;> rfl
theorem allM_next {α β : Type} {f : α → Option β} {l : List α} {k : Nat} {x : α} {ys : List β} {y : β} (h : l[k]? = some x) (h0 : allM f (l.take k) = some ys) (h1 : f x = some y) : allM f (l.take (k + 1)) = some (ys ++ [y]) := by
  rw [take_succ_eq h, allM_snoc, h0, h1]; rfl
theorem allM_miss {α β : Type} {f : α → Option β} : ∀ {l : List α} {k : Nat} {x : α}, l[k]? = some x → f x = none → allM f l = none
  | [], k, x, h, _ => by simp at h
  | z :: l, 0, x, h, h1 => by simp at h; subst h; simp only [allM, h1]; rfl
  | z :: l, k + 1, x, h, h1 => by
    simp only [allM, allM_miss (l := l) (k := k) (by simpa using h) h1]
    cases f z <;> rfl
theorem allM_len {α β : Type} {f : α → Option β} : ∀ {l : List α} {ys : List β}, allM f l = some ys → ys.length = l.length
  | [], ys, h => by simp only [allM, Option.some.injEq] at h; subst h; rfl
  | x :: l, ys, h => by
    simp only [allM] at h
    cases hx : f x with
    | none => rw [hx] at h; cases h
    | some y =>
      cases hl : allM f l with
      | none => rw [hx, hl] at h; cases h
      | some zs => rw [hx, hl] at h; simp at h; subst h; simp [allM_len hl]
theorem allM_map {α β γ : Type} {f : α → Option β} {g : β → γ} {p : α → γ} (hf : ∀ x y, f x = some y → g y = p x) : ∀ {l : List α} {ys : List β}, allM f l = some ys → ys.map g = l.map p
  | [], ys, h => by simp only [allM, Option.some.injEq] at h; subst h; rfl
  | x :: l, ys, h => by
    simp only [allM] at h
    cases hx : f x with
    | none => rw [hx] at h; cases h
    | some y =>
      cases hl : allM f l with
      | none => rw [hx, hl] at h; cases h
      | some zs => rw [hx, hl] at h; simp at h; subst h; simp [hf x y hx, allM_map hf hl]
def stT (s : St) : List UInt8 := Lib.itoa s.k ++ [46] ++ Lib.itoa s.a ++ [46] ++ Lib.itoa s.b
def bodyT (l : List St) : List UInt8 := Lib.join (l.map stT) [32]
/-- The text of a program. -/
def progT (L : List (List St)) : List UInt8 := Lib.join (L.map bodyT) [47]
/-- The step of a text. -/
def readSt (s : ByteArray) : Option St := match (splT s 46).map ans_Int with
  | [(k, true), (a, true), (b, true)] => some ⟨k, a, b⟩
  | _ => none
def readBd (s : ByteArray) : Option (List St) := if s.size = 0 then some [] else allM readSt (splT s 32)
def readPg (s : ByteArray) : Option (List (List St)) := allM readBd (splT s 47)
theorem isNum_data {p : ByteArray} {v : Int} (h : ans_Int p = (v, true)) : p.data.toList = Lib.itoa v := by rw [← (ans_Int_of h).2.2, numB_data]
theorem splT_data (s : ByteArray) (b : UInt8) : (splT s b).map (·.data.toList) = splitL b s.data.toList := by
  unfold splT
  rw [List.map_map]
  exact (List.map_congr_left (fun x _ => by simp [mkT])).trans (List.map_id _)
theorem readSt_text {s : ByteArray} {x : St} (h : readSt s = some x) : stT x = s.data.toList := by
  have hj := join_split 46 s.data.toList
  rw [← splT_data] at hj
  unfold readSt at h
  split at h
  · rename_i k a b e
    simp only [Option.some.injEq] at h
    subst h
    have hlen := congrArg List.length e
    rw [List.length_map] at hlen
    obtain ⟨p, q, r, hsp⟩ : ∃ p q r, splT s 46 = [p, q, r] := by
      generalize splT s 46 = L at hlen
      match L, hlen with
      | [p, q, r], _ => exact ⟨p, q, r, rfl⟩
    rw [hsp] at hj e
    simp only [List.map_cons, List.map_nil, List.cons.injEq, and_true] at e hj
    rw [isNum_data e.1, isNum_data e.2.1, isNum_data e.2.2, Lib.join_cons] at hj
    rw [← hj]
    simp [stT, Lib.joinTail]
  · cases h
theorem readBd_text {s : ByteArray} {l : List St} (h : readBd s = some l) : bodyT l = s.data.toList := by
  unfold readBd at h
  split at h
  · rename_i h0
    simp only [Option.some.injEq] at h
    subst h
    have : s.data.toList = [] := List.length_eq_zero_iff.1 (by rw [data_len]; exact h0)
    rw [this]; rfl
  · have := allM_map (g := stT) (p := fun z : ByteArray => z.data.toList) (fun x y hxy => readSt_text hxy) h
    unfold bodyT
    rw [this, splT_data, join_split]
theorem readPg_text {s : ByteArray} {L : List (List St)} (h : readPg s = some L) : progT L = s.data.toList := by
  have := allM_map (g := bodyT) (p := fun z : ByteArray => z.data.toList) (fun x y hxy => readBd_text hxy) h
  unfold progT
  rw [this, splT_data, join_split]
theorem join_len (B : Nat) (sep : List UInt8) : ∀ (L : List (List UInt8)), (∀ x ∈ L, x.length ≤ B) → (Lib.join L sep).length ≤ L.length * (B + sep.length)
  | [], _ => by simp [Lib.join_nil]
  | x :: l, h => by
    have hx := h x (by simp)
    have key : ∀ r : List (List UInt8), (∀ x ∈ r, x.length ≤ B) → (Lib.joinTail sep r).length ≤ r.length * (B + sep.length) := by
      intro r
      induction r with
      | nil => intro _; simp [Lib.joinTail]
      | cons y r ih =>
        intro hr
        have h1 := ih (fun z hz => hr z (by simp [hz]))
        have h2 := hr y (by simp)
        have e : Lib.joinTail sep (y :: r) = sep ++ y ++ Lib.joinTail sep r := by simp [Lib.joinTail]
        rw [e, List.length_append, List.length_append, List.length_cons, Nat.add_mul]
        omega
    have := key l (fun z hz => h z (by simp [hz]))
    rw [Lib.join_cons, List.length_append, List.length_cons, Nat.add_mul]
    omega
theorem itoa_len {n : Int} (h0 : -99999 ≤ n) (h1 : n ≤ 99999) : (Lib.itoa n).length ≤ 6 := by
  by_cases hn : n < 0
  · obtain ⟨u, rfl⟩ : ∃ u : Nat, n = -(u : Int) := ⟨n.natAbs, by omega⟩
    rw [Lib.itoa_neg u (by omega), List.length_cons, Lib.decDigits_length]
    have := nDigits_le 4 u (by omega)
    omega
  · obtain ⟨u, rfl⟩ : ∃ u : Nat, n = (u : Int) := ⟨n.toNat, by omega⟩
    rw [Lib.itoa_nonneg, Lib.decDigits_length]
    have := nDigits_le 4 u (by omega)
    omega
/-- The numbers of a step are small. -/
theorem step_small {s : St} {n : Nat} (hn : n ≤ 6) (h : stepB s n = true) : (0 ≤ s.k ∧ s.k ≤ 99) ∧ (-99999 ≤ s.a ∧ s.a ≤ 99999) ∧ (-99999 ≤ s.b ∧ s.b ≤ 99999) := by
  unfold stepB at h
  split at h
  · simp only [Bool.and_eq_true] at h; have h1 := inB_true h.1; have h2 := inB_true h.2; omega
  split at h
  · simp only [Bool.and_eq_true] at h; have h1 := inB_true h.1; have h2 := inB_true h.2; omega
  split at h
  · simp only [Bool.and_eq_true] at h; have h1 := inB_true h.1; have h2 := inB_true h.2; omega
  split at h
  · simp only [Bool.and_eq_true] at h; have h1 := inB_true h.1; have h2 := inB_true h.2; omega
  split at h
  · simp only [Bool.and_eq_true, decide_eq_true_eq] at h; omega
  · simp only [Bool.and_eq_true, decide_eq_true_eq] at h; have h1 := inB_true h.1; have h2 := inB_true h.2.1; omega
theorem itoa_len2 {n : Int} (h0 : 0 ≤ n) (h1 : n ≤ 99) : (Lib.itoa n).length ≤ 2 := by
  obtain ⟨u, rfl⟩ : ∃ u : Nat, n = (u : Int) := ⟨n.toNat, by omega⟩
  rw [Lib.itoa_nonneg, Lib.decDigits_length]
  have := nDigits_le 1 u (by omega)
  omega
theorem stT_len {s : St} {n : Nat} (hn : n ≤ 6) (h : stepB s n = true) : (stT s).length ≤ 16 := by
  obtain ⟨h1, h2, h3⟩ := step_small hn h
  have l1 := itoa_len2 h1.1 h1.2
  have l2 := itoa_len h2.1 h2.2
  have l3 := itoa_len h3.1 h3.2
  simp only [stT, List.length_append, List.length_cons, List.length_nil]
  omega
theorem bodyT_len {l : List St} {n : Nat} (hn : n ≤ 6) (h : bodyB n l = true) : (bodyT l).length ≤ 136 := by
  unfold bodyB at h
  simp only [Bool.and_eq_true, decide_eq_true_eq, List.all_eq_true] at h
  have := join_len 16 [32] (l.map stT) (fun x hx => by
    obtain ⟨s, hs, rfl⟩ := List.mem_map.1 hx
    exact stT_len hn (h.2 s hs))
  rw [List.length_map, List.length_singleton] at this
  unfold bodyT
  have h2 := h.1
  omega
/-- A valid program's text is short. -/
theorem progT_len {L : List (List St)} (h : progB L = true) : (progT L).length ≤ 822 := by
  unfold progB at h
  simp only [Bool.and_eq_true, List.all_eq_true] at h
  have hb := inB_true h.1
  have := join_len 136 [47] (L.map bodyT) (fun x hx => by
    obtain ⟨s, hs, rfl⟩ := List.mem_map.1 hx
    exact bodyT_len (n := L.length) (by omega) (h.2 s hs))
  rw [List.length_map, List.length_singleton] at this
  unfold progT
  omega
/-- What is read out of a text, if it is a program's. -/
def ans_Prog (s : ByteArray) : List (List St) × Bool := match readPg s with
  | some L => if progB L = true then (L, true) else ([], false)
  | none => ([], false)
theorem ans_Prog_none {s : ByteArray} (h : readPg s = none) : ans_Prog s = ([], false) := by unfold ans_Prog; rw [h]
theorem ans_Prog_bad {s : ByteArray} {L : List (List St)} (h : readPg s = some L) (h2 : progB L = false) : ans_Prog s = ([], false) := by unfold ans_Prog; rw [h]; exact if_neg (by rw [h2]; simp)
theorem ans_Prog_yes {s : ByteArray} {L : List (List St)} (h : readPg s = some L) (h2 : progB L = true) : ans_Prog s = (L, true) := by unfold ans_Prog; rw [h]; exact if_pos h2
/-- Only a short text is a program's. -/
theorem ans_Prog_long {s : ByteArray} (h : 1000 < s.size) : ans_Prog s = ([], false) := by
  cases hr : readPg s with
  | none => exact ans_Prog_none hr
  | some L =>
    cases hp : progB L with
    | false => exact ans_Prog_bad hr hp
    | true =>
      have h1 := progT_len hp
      rw [readPg_text hr, data_len] at h1
      omega
end Go.Proofs.YtnioipbofopocaaDoor
