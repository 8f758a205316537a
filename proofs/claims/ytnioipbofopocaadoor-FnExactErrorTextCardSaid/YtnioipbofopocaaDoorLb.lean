/- Library calls over owned rows: append of a row that is read; slices.Index, Contains, Clone over ints. Conditions: lengths within bounds. -/
import Derived.Test.YtnioipbofopocaaDoorTb
import Derived.Test.YtnioipbofopocaaDoorSc
import Derived.WalkSpells
import Derived.Laws.AppendOwnNone
namespace Go.Proofs.YtnioipbofopocaaDoor.SL
open Go.RowKit
set_option linter.unusedVariables false
section
variable {P : Program} {ops : Array Oper} {rest : List Oper} {o : Oper} {a : Act} {Q : Exit → Act → World → Prop}
theorem ev_appendG {w : World} {S F : HP} {e size n : Nat} {v : Value} {cs : List Value} [H : SepI w S] (hgd : o.guard = none) (s x : Operand) (t : TypeId)
    (ho : o.op = .call { callee := .builtin .append, args := #[s, x], argTypes := #[t, t] }) (hs : a.eval s = v) [p : PickR S e size v n cs F]
    (bytes : Nat) (z : Value) (ht : P.underlying t = some (.slice e)) (hinfo : (P.info? e).map (fun i => (i.zero, i.size, i.bytes)) = some (some z, size, bytes)) (hz : z.cells.size = size) (hsz : 0 < size) (hb0 : 0 < bytes)
    (ad : Addr) (m c : Nat) (hx : a.eval x = .slice (some ad) m c) {news : List Value} (hnews : ∀ j u, news[j]? = some u → w.cell? (ad.add j) = some u) (hl : news.length = m * size) (h1 : ∀ u ∈ news, u.oneCell' = true)
    (hbytes : (n + m) * bytes ≤ 140737488355328)
    (k : ∀ v1 w1, SepI w1 (Row e size v1 (n + m) (cs ++ news) * F) → (∀ u [ExtI u w], ExtI u w1) → wpList P ops Q rest (a.put o.dst v1) w1) : wpList P ops Q (o :: rest) a w := by
  obtain ⟨i0, hi, hzz⟩ := Option.map_eq_some_iff.1 hinfo
  simp only [Prod.mk.injEq] at hzz
  obtain ⟨hz0, hz1, hz2⟩ := hzz
  have HR := H.pickR p
  have hlen : n + m ≤ 140737488355328 := Nat.le_trans (Nat.le_mul_of_pos_right _ hb0) hbytes
  refine wpList_append_own_at w hgd s x t ho 0 e i0 z size bytes ht hi hz0 hz1 hz2 hz hsz v n cs hs (Row.own HR) ad m c news hx hl hnews h1 (by simp only [maxLen]; omega) hbytes (Nat.zero_le _) ?_
  intro v1 w1 hown hg _ hat
  refine k v1 w1 ?_ (fun u i => i.trans ⟨hg.os, hg.tape, hg.output, hg.size⟩)
  refine HR.turn fun h hh hk => ?_
  obtain ⟨hl1, ho1⟩ := hown
  obtain ⟨hl2, ho2⟩ := hh
  have frame : ∀ g, g < w.heap.size → h g = Option.none → w1.heap[g]? = w.heap[g]? := fun g hlt hn => hg.block g hlt (by
    rcases ho2 with ⟨rfl, _⟩ | ⟨g2, cap2, cur2, rfl, hg2, _⟩
    · simp [Value.ownBlock]
    · simp only [Value.ownBlock, ne_eq, Option.some.injEq]
      rintro rfl
      rw [hg2] at hn
      cases hn)
  rcases ho1 with ⟨rfl, hn0⟩ | ⟨g1, cap1, cur1, rfl, _, hg1, q1, q2, q3, q4⟩
  · exact ⟨fun _ => Option.none, ⟨hl1, .inl ⟨rfl, hn0⟩⟩, fun _ _ q => by simp at q, fun _ q => absurd rfl q, frame⟩
  · refine ⟨fun g => if g = g1 then some (.cells cur1 e (0, 0)) else Option.none, ⟨hl1, .inr ⟨g1, cap1, cur1, rfl, by simp, q1, q2, q3, q4⟩⟩, fun g u q => ?_, fun g q => ?_, frame⟩
    · by_cases eg : g = g1
      · subst eg; simp at q; subst q; exact hg1
      · simp [eg] at q
    · by_cases eg : g = g1
      · subst eg
        rcases hat with hat | hat
        · left
          rcases ho2 with ⟨rfl, _⟩ | ⟨g2, cap2, cur2, rfl, hg2, _⟩
          · simp [Value.ownBlock] at hat
          · simp only [Value.ownBlock, Option.some.injEq] at hat
            rw [hat, hg2]; simp
        · right
          simp only [Value.ownBlock, Option.some.injEq] at hat
          omega
      · simp [eg] at q
/-- append(v, x...): x a row that is read. -/
theorem ev_appendR {w : World} {S F : HP} {e size n : Nat} {v : Value} {cs : List Value} [H : SepI w S] (hgd : o.guard = none) (s x : Operand) (t : TypeId)
    (ho : o.op = .call { callee := .builtin .append, args := #[s, x], argTypes := #[t, t] }) (hs : a.eval s = v) [p : PickR S e size v n cs F]
    (bytes : Nat) (z : Value) (ht : P.underlying t = some (.slice e)) (hinfo : (P.info? e).map (fun i => (i.zero, i.size, i.bytes)) = some (some z, size, bytes)) (hz : z.cells.size = size) (hsz : 0 < size) (hb0 : 0 < bytes)
    (A : Option Addr) (m c : Nat) (hx : a.eval x = .slice A m c) {news : List Value} [rx : Rd S A news] (hA : A = none → m = 0 ∧ c = 0) (hl : news.length = m * size) (h1 : ∀ u ∈ news, u.oneCell' = true)
    (hbytes : (n + m) * bytes ≤ 140737488355328)
    (k : ∀ v1 w1, SepI w1 (Row e size v1 (n + m) (cs ++ news) * F) → (∀ u [ExtI u w], ExtI u w1) → wpList P ops Q rest (a.put o.dst v1) w1) : wpList P ops Q (o :: rest) a w := by
  cases A with
  | none =>
    obtain ⟨rfl, rfl⟩ := hA rfl
    have hn : news = [] := List.length_eq_zero_iff.1 (by rw [hl, Nat.zero_mul])
    obtain ⟨i0, hi, hzz⟩ := Option.map_eq_some_iff.1 hinfo
    simp only [Prod.mk.injEq] at hzz
    obtain ⟨hz0, hz1, hz2⟩ := hzz
    have HR := H.pickR p
    refine wpList_append_own_none hgd s x t ho 0 e i0 size ht hi v n cs hs (Row.own HR) hx (k v w ?_ (fun u i => i))
    rw [hn, List.append_nil]; exact HR
  | some ad =>
    refine ev_appendG hgd s x t ho hs bytes z ht hinfo hz hsz hb0 ad m c hx (fun j u hj => ?_) hl h1 hbytes k
    rcases rx.out w H with hn | ⟨b, off, hA', _, hc⟩
    · rw [hn] at hj; simp at hj
    · injection hA' with hA'
      subst hA'
      rw [show ((⟨b, off, none⟩ : Addr).add j) = ⟨b, off + j, none⟩ from by unfold Addr.add; split <;> simp_all]
      exact hc j u hj
end
end Go.Proofs.YtnioipbofopocaaDoor.SL
namespace Go.Proofs.YtnioipbofopocaaDoor
open Go.RowKit SL
attribute [local go_sem] cell_blk frozen_blk lt_blk cell_at frozen_row lt_row
set_option linter.unusedVariables false
set_option linter.unusedSimpArgs false

/-- The place where a number stands first, or -1. -/
def idxI : List Int → Int → Int
  | [], _ => -1
  | y :: l, x => if y = x then 0 else (if idxI l x < 0 then -1 else idxI l x + 1)
theorem idxI_no : ∀ {l : List Int} {x : Int}, l.contains x = false → idxI l x = -1
  | [], _, _ => rfl
  | y :: l, x, h => by
    rw [List.contains_cons, Bool.or_eq_false_iff] at h
    have hne : ¬ y = x := fun e => by have := h.1; subst e; simp at this
    rw [idxI, if_neg hne, idxI_no h.2]; rfl
theorem idxI_at : ∀ {l : List Int} {k : Nat} {x : Int}, l[k]? = some x → (l.take k).contains x = false → idxI l x = k
  | [], k, x, h, _ => by simp at h
  | y :: l, 0, x, h, _ => by simp at h; rw [idxI, if_pos h]; rfl
  | y :: l, k + 1, x, h, h0 => by
    rw [List.take_succ_cons, List.contains_cons, Bool.or_eq_false_iff] at h0
    have hne : ¬ y = x := fun e => by have := h0.1; subst e; simp at this
    rw [idxI, if_neg hne, idxI_at (by simpa using h) h0.2, if_neg (by omega)]; omega
theorem idxI_neg (l : List Int) (x : Int) : decide (idxI l x ≥ 0) = l.contains x := by
  cases h : l.contains x with
  | false => rw [idxI_no h]; rfl
  | true =>
    rw [List.contains_iff_mem] at h
    have key : ∀ l : List Int, x ∈ l → 0 ≤ idxI l x := by
      intro l
      induction l with
      | nil => intro h; cases h
      | cons y l ih =>
        intro h
        rw [idxI]
        split
        · omega
        · rcases List.mem_cons.1 h with rfl | h
          · exact absurd rfl ‹_›
          · have := ih h; rw [if_neg (by omega)]; omega
    simpa using key l h
theorem contains_take {l : List Int} {k : Nat} {x y : Int} (h : l[k]? = some y) (h0 : (l.take k).contains x = false) (hn : ¬ x = y) : (l.take (k + 1)).contains x = false := by
  rw [take_succ_eq h, ← Bool.not_eq_true, List.contains_iff_mem, List.mem_append, List.mem_singleton]
  rintro (h1 | h1)
  · rw [← List.contains_iff_mem, h0] at h1; cases h1
  · exact hn h1
/-- The empty row that a literal makes. -/
theorem Row.lit0 {w : World} {g : Nat} {e : TypeId} {size : Nat} {F : HP} (H : SepI w (pts g (.cells #[] e (0, 0)) * F)) : SepI w (Row e size (.slice (some ⟨g, 0, none⟩) 0 0) 0 [] * F) := by
  have := Row.close (size := size) (n := 0) (cap := 0) H (Nat.le_refl _) (Nat.zero_le _) (by simp)
  simpa using this
end Go.Proofs.YtnioipbofopocaaDoor
