/- Rows (slices that a call owns, or reads) over the small separation logic. Conditions: none; plain lemmas. -/
import Derived.Test.YtnioipbofopocaaDoorSl
namespace Go.Proofs.YtnioipbofopocaaDoor.SL
open Go.RowKit
set_option linter.unusedVariables false

/-- Slice value v of n elements of type e (size cells each) is owned; its cells are cs. -/
def Row (e : TypeId) (size : Nat) (v : Value) (n : Nat) (cs : List Value) : HP := fun h =>
  cs.length = n * size ∧ ((v = .slice none 0 0 ∧ n = 0) ∨
   ∃ g cap cur, v = .slice (some ⟨g, 0, none⟩) n cap ∧ h g = some (.cells cur e (0, 0)) ∧ n ≤ cap ∧ cap ≤ maxLen ∧ cur.size = cap * size ∧ cur.toList.take (n * size) = cs)

theorem Row.own {w : World} {e : TypeId} {size : Nat} {v : Value} {n : Nat} {cs : List Value} {F : HP} (H : SepI w (Row e size v n cs * F)) : w.ownsRow 0 e size v n cs := by
  obtain ⟨h, ⟨hl, r⟩, k⟩ := H.left.out
  refine ⟨hl, ?_⟩
  rcases r with r | ⟨g, cap, cur, hv, hg, q⟩
  · exact .inl r
  · exact .inr ⟨g, cap, cur, hv, Nat.zero_le _, k g _ hg, q⟩
theorem Row.nil0 {w : World} {S : HP} (H : SepI w S) (e : TypeId) (size : Nat) : SepI w (Row e size (.slice none 0 0) 0 [] * S) :=
  (H.emp).turn fun h _ _ => ⟨fun _ => Option.none, ⟨by simp, .inl ⟨rfl, rfl⟩⟩, fun _ _ q => by simp at q, fun _ q => absurd rfl q, fun _ _ _ => rfl⟩
theorem Row.open {w : World} {e : TypeId} {size : Nat} {v : Value} {n : Nat} {cs : List Value} {F : HP} (H : SepI w (Row e size v n cs * F)) :
    (v = .slice none 0 0 ∧ n = 0 ∧ cs = []) ∨ ∃ g cap cur, v = .slice (some ⟨g, 0, none⟩) n cap ∧ cs.length = n * size ∧ n ≤ cap ∧ cap ≤ maxLen ∧ cur.size = cap * size ∧ cur.toList.take (n * size) = cs ∧ SepI w (pts g (.cells cur e (0, 0)) * F) := by
  obtain ⟨h, ⟨h1, h2, ⟨hl, r⟩, b, d, ee⟩, k⟩ := H.out
  rcases r with ⟨rfl, rfl⟩ | ⟨g, cap, cur, hv, hg, q1, q2, q3, q4⟩
  · left; exact ⟨rfl, rfl, by simpa using hl⟩
  · right; exact ⟨g, cap, cur, hv, hl, q1, q2, q3, q4, ⟨h, ⟨h1, h2, hg, b, d, ee⟩, k⟩⟩
theorem Row.close {w : World} {e : TypeId} {size g n cap : Nat} {cur : Array Value} {F : HP} (H : SepI w (pts g (.cells cur e (0, 0)) * F)) (h1 : n ≤ cap) (h2 : cap ≤ maxLen) (h3 : cur.size = cap * size) :
    SepI w (Row e size (.slice (some ⟨g, 0, none⟩) n cap) n (cur.toList.take (n * size)) * F) := by
  obtain ⟨h, ⟨ha, hb, a, b, d, ee⟩, k⟩ := H.out
  refine ⟨⟨h, ⟨ha, hb, ⟨?_, .inr ⟨g, cap, cur, rfl, a, h1, h2, h3, rfl⟩⟩, b, d, ee⟩, k⟩⟩
  rw [List.length_take, Array.length_toList, h3]
  exact Nat.min_eq_left (Nat.mul_le_mul_right _ h1)
theorem Row.len {w : World} {e : TypeId} {size : Nat} {v : Value} {n : Nat} {cs : List Value} {F : HP} (H : SepI w (Row e size v n cs * F)) : cs.length = n * size := by
  obtain ⟨h, ⟨hl, _⟩, _⟩ := H.left.out
  exact hl
theorem Row.form {w : World} {e : TypeId} {size : Nat} {v : Value} {n : Nat} {cs : List Value} {F : HP} (H : SepI w (Row e size v n cs * F)) : ∃ A c, v = .slice A n c ∧ n ≤ c ∧ c ≤ maxLen := by
  rcases Row.open H with ⟨rfl, rfl, _⟩ | ⟨g, cap, cur, rfl, _, h1, h2, _⟩
  · exact ⟨_, _, rfl, Nat.le_refl _, by unfold maxLen; omega⟩
  · exact ⟨_, _, rfl, h1, h2⟩

/-- S is the row of v beside F. -/
class PickR (S : HP) (e size : outParam Nat) (v : Value) (n : outParam Nat) (cs : outParam (List Value)) (F : outParam HP) : Prop where
  eq : S = Row e size v n cs * F
instance PickR.here (e size : Nat) (v : Value) (n : Nat) (cs : List Value) (F : HP) : PickR (Row e size v n cs * F) e size v n cs F := ⟨rfl⟩
instance (priority := low) PickR.there (A S : HP) (e size : Nat) (v : Value) (n : Nat) (cs : List Value) (F : HP) [i : PickR S e size v n cs F] : PickR (A * S) e size v n cs (A * F) := ⟨by rw [i.eq, star_left]⟩
instance (priority := low - 1) PickR.last (A : HP) (e size : Nat) (v : Value) (n : Nat) (cs : List Value) : PickR (A * Row e size v n cs) e size v n cs A := ⟨star_comm _ _⟩
theorem SepI.pickR {w : World} {S F : HP} {e size : Nat} {v : Value} {n : Nat} {cs : List Value} (H : SepI w S) (i : PickR S e size v n cs F) : SepI w (Row e size v n cs * F) := i.eq ▸ H

/-- Cells that are read: where S holds, the cells behind address A are cs. -/
class Rd (S : HP) (A : Option Addr) (cs : outParam (List Value)) : Prop where
  out : ∀ w, SepI w S → cs = [] ∨ ∃ b off, A = some ⟨b, off, none⟩ ∧ b < w.heap.size ∧ ∀ j v, cs[j]? = some v → w.cell? ⟨b, off + j, none⟩ = some v
instance (priority := low) Rd.there (X S : HP) (A : Option Addr) (cs : List Value) [i : Rd S A cs] : Rd (X * S) A cs := ⟨fun w H => i.out w H.right⟩
theorem Rd.left {X S : HP} {A : Option Addr} {cs : List Value} (i : Rd X A cs) : Rd (X * S) A cs := ⟨fun w H => i.out w H.left⟩
theorem Rd.nil (S : HP) (A : Option Addr) : Rd S A [] := ⟨fun _ _ => .inl rfl⟩
instance Rd.of_row (e size : Nat) (A : Option Addr) (n c : Nat) (cs : List Value) (F : HP) : Rd (Row e size (.slice A n c) n cs * F) A cs := ⟨fun w H => by
  rcases Row.open H with ⟨_, _, h⟩ | ⟨g, cap, cur, hv, hl, h1, h2, h3, h4, H'⟩
  · exact .inl h
  · right
    injection hv with hA _ _
    refine ⟨g, 0, hA, (Array.getElem?_eq_some_iff.1 H'.block).1, fun j v hj => ?_⟩
    rw [Nat.zero_add, cell_of_row w g j cur e (0, 0) H'.block, ← Array.getElem?_toList]
    rw [← h4] at hj
    rw [List.getElem?_take] at hj
    split at hj
    · exact hj
    · cases hj⟩
instance Rd.of_row_last (X : HP) (e size : Nat) (A : Option Addr) (n c : Nat) (cs : List Value) : Rd (X * Row e size (.slice A n c) n cs) A cs := ⟨fun w H => by
  rw [star_comm] at H
  exact (Rd.of_row e size A n c cs X).out w H⟩
/-- Of the whole elder world. -/
theorem Rd.of_old {w0 : World} {A : Option Addr} {cs : List Value} (h : cs = [] ∨ ∃ b off, A = some ⟨b, off, none⟩ ∧ b < w0.heap.size ∧ ∀ j v, cs[j]? = some v → w0.cell? ⟨b, off + j, none⟩ = some v) : Rd (old w0) A cs := ⟨fun w H => by
  rcases h with h | ⟨b, off, hA, hb, hc⟩
  · exact .inl h
  · obtain ⟨p, hp, k⟩ := H.out
    have e : w.heap[b]? = w0.heap[b]? := by
      have h1 := hp b hb
      rw [Array.getElem?_eq_getElem hb] at h1 ⊢
      exact k b _ h1
    exact .inr ⟨b, off, hA, by
      rw [Array.getElem?_eq_getElem hb] at e
      exact (Array.getElem?_eq_some_iff.1 e).1, fun j v hj => by rw [← hc j v hj]; exact World.cell?_of_block (w := w0) e⟩⟩
/-- The address of what is read, where there is something. -/
theorem Rd.addr {S : HP} {A : Option Addr} {cs : List Value} (i : Rd S A cs) {w : World} (H : SepI w S) {j : Nat} (hj : j < cs.length) : ∃ b off, A = some ⟨b, off, none⟩ := by
  rcases i.out w H with h | ⟨b, off, hA, _⟩
  · rw [h] at hj; simp at hj
  · exact ⟨b, off, hA⟩
/-- One cell that is read. -/
class CellAt (S : HP) (b j : Nat) (v : outParam Value) : Prop where
  out : ∀ w, SepI w S → w.cell? ⟨b, j, none⟩ = some v
instance (priority := low) CellAt.there (X S : HP) (b j : Nat) (v : Value) [i : CellAt S b j v] : CellAt (X * S) b j v := ⟨fun w H => i.out w H.right⟩
theorem Rd.cell {S : HP} {b off : Nat} {cs : List Value} (i : Rd S (some ⟨b, off, none⟩) cs) {j : Nat} {v : Value} (h : cs[j]? = some v) : CellAt S b (off + j) v := ⟨fun w H => by
  rcases i.out w H with h' | ⟨b', off', hA, _, hc⟩
  · rw [h'] at h; simp at h
  · injection hA with hA
    injection hA with h1 h2
    subst h1; subst h2
    exact hc j v h⟩
theorem cell_at (w : World) (S : HP) (b j : Nat) (v : Value) [H : SepI w S] [h : CellAt S b j v] : w.cell? ⟨b, j, none⟩ = some v := h.out w H
theorem lt_rd {w : World} {S : HP} {b off : Nat} {cs : List Value} [H : SepI w S] (h : Rd S (some ⟨b, off, none⟩) cs) (hc : 0 < cs.length) : b < w.heap.size := by
  rcases h.out w H with h' | ⟨b', off', hA, hb, _⟩
  · rw [h'] at hc; simp at hc
  · injection hA with hA
    injection hA with h1 h2
    subst h1
    exact hb

/-- In S block g is an owned row; with cs' in place of its cells S is S'. -/
class UpdR (S : HP) (g : Nat) (e size n c : outParam Nat) (cs : outParam (List Value)) (cs' : List Value) (S' : outParam HP) : Prop where
  out : ∃ F, S = Row e size (.slice (some ⟨g, 0, none⟩) n c) n cs * F ∧ S' = Row e size (.slice (some ⟨g, 0, none⟩) n c) n cs' * F
instance UpdR.here (g e size n c : Nat) (cs cs' : List Value) (S : HP) : UpdR (Row e size (.slice (some ⟨g, 0, none⟩) n c) n cs * S) g e size n c cs cs' (Row e size (.slice (some ⟨g, 0, none⟩) n c) n cs' * S) := ⟨S, rfl, rfl⟩
instance (priority := low) UpdR.there (A S S' : HP) (g e size n c : Nat) (cs cs' : List Value) [i : UpdR S g e size n c cs cs' S'] : UpdR (A * S) g e size n c cs cs' (A * S') := ⟨by
  obtain ⟨F, rfl, rfl⟩ := i.out
  exact ⟨A * F, star_left _ _ _, star_left _ _ _⟩⟩
class HasR (S : HP) (g : Nat) (e size n c : outParam Nat) (cs : outParam (List Value)) : Prop where
  out : ∃ F, S = Row e size (.slice (some ⟨g, 0, none⟩) n c) n cs * F
instance HasR.here (g e size n c : Nat) (cs : List Value) (S : HP) : HasR (Row e size (.slice (some ⟨g, 0, none⟩) n c) n cs * S) g e size n c cs := ⟨S, rfl⟩
instance (priority := low) HasR.there (A S : HP) (g e size n c : Nat) (cs : List Value) [i : HasR S g e size n c cs] : HasR (A * S) g e size n c cs := ⟨by
  obtain ⟨F, rfl⟩ := i.out
  exact ⟨A * F, star_left _ _ _⟩⟩
theorem take_set' (cur : Array Value) (j m : Nat) (v : Value) : (cur.setIfInBounds j v).toList.take m = (cur.toList.take m).set j v := by
  rw [Array.toList_setIfInBounds, List.take_set]
instance SepI.i_setRow (w : World) (S S' : HP) (g j : Nat) (v : Value) (e size n c : Nat) (cs : List Value) [H : SepI w S] [h : HasR S g e size n c cs]
    [i : UpdR S g e size n c cs (cs.set j v) S'] : SepI (w.setCell ⟨g, j, none⟩ v) S' := by
  obtain ⟨F, rfl, rfl⟩ := i.out
  rcases Row.open H with ⟨hv, _⟩ | ⟨g', cap, cur, hv, hl, h1, h2, h3, h4, H'⟩
  · cases hv
  · injection hv with hA _ hc
    injection hA with hA
    injection hA with hA
    subst hA; subst hc
    have H2 : SepI (w.setCell ⟨g, j, none⟩ v) (pts g (.cells (cur.setIfInBounds j v) e (0, 0)) * F) := SepI.i_setCell w _ _ g j v cur e (0, 0)
    have H3 := Row.close (size := size) H2 h1 h2 (by rw [Array.size_setIfInBounds, h3])
    rw [take_set', h4] at H3
    exact H3
theorem frozen_row (w : World) (S : HP) (g j : Nat) (e size n c : Nat) (cs : List Value) [H : SepI w S] [h : HasR S g e size n c cs] : w.frozen? ⟨g, j, none⟩ = false := by
  obtain ⟨F, rfl⟩ := h.out
  rcases Row.open H with ⟨hv, _⟩ | ⟨g', cap, cur, hv, hl, h1, h2, h3, h4, H'⟩
  · cases hv
  · injection hv with hA _ hc
    injection hA with hA
    injection hA with hA
    subst hA
    simp [World.frozen?, H'.block]
theorem lt_row (w : World) (S : HP) (g : Nat) (e size n c : Nat) (cs : List Value) [H : SepI w S] [h : HasR S g e size n c cs] : g < w.heap.size := by
  obtain ⟨F, rfl⟩ := h.out
  rcases Row.open H with ⟨hv, _⟩ | ⟨g', cap, cur, hv, hl, h1, h2, h3, h4, H'⟩
  · cases hv
  · injection hv with hA _ hc
    injection hA with hA
    injection hA with hA
    subst hA
    exact (Array.getElem?_eq_some_iff.1 H'.block).1

theorem ret_b {a b : Bool} (h : a = b) : Ending.returned (.bool a) = .returned (.bool b) := by rw [h]
theorem ret_i {a b : Int} (h : a = b) : Ending.returned (.int .i64 a) = .returned (.int .i64 b) := by rw [h]
theorem Row.cellAt {e size n c g : Nat} {cs : List Value} {F : HP} {j : Nat} {v : Value} (h : cs[j]? = some v) : CellAt (Row e size (.slice (some ⟨g, 0, none⟩) n c) n cs * F) g j v := ⟨fun w H => by
  have i : Rd (Row e size (.slice (some ⟨g, 0, none⟩) n c) n cs * F) (some ⟨g, 0, none⟩) cs := Rd.of_row e size _ n c cs F
  have := (i.cell h).out w H
  rwa [Nat.zero_add] at this⟩
def ints (xs : List Int) : List Value := xs.map (Value.int .i64)
theorem ints_len (xs : List Int) : (ints xs).length = xs.length := by simp [ints]
theorem ints_get {xs : List Int} {k : Nat} {x : Int} (h : xs[k]? = some x) : (ints xs)[k]? = some (.int .i64 x) := by simp [ints, h]
theorem ints_append (xs ys : List Int) : ints (xs ++ ys) = ints xs ++ ints ys := by simp [ints]
theorem get_ex {α : Type} {xs : List α} {k : Nat} (h : k < xs.length) : ∃ x, xs[k]? = some x := ⟨xs[k], by simp [h]⟩

theorem take_succ_eq {α : Type} {xs : List α} {k : Nat} {x : α} (h : xs[k]? = some x) : xs.take (k + 1) = xs.take k ++ [x] := by rw [List.take_add_one, h]; rfl
theorem ne_of_get {α : Type} {xs ys : List α} {k : Nat} {x y : α} (h : xs[k]? = some x) (h' : ys[k]? = some y) (hn : x ≠ y) : xs ≠ ys := by
  rintro rfl
  rw [h] at h'
  exact hn (Option.some.inj h')
theorem flat_get {α β : Type} {f : α → List β} {k : Nat} (hf : ∀ x, (f x).length = k) : ∀ {xs : List α} {j : Nat} {x : α}, xs[j]? = some x → ∀ i, i < k → (xs.flatMap f)[j * k + i]? = (f x)[i]?
  | [], j, x, h, i, hi => by simp at h
  | y :: ys, 0, x, h, i, hi => by
    simp at h
    subst h
    rw [List.flatMap_cons, Nat.zero_mul, Nat.zero_add, List.getElem?_append_left (by rw [hf]; exact hi)]
  | y :: ys, j + 1, x, h, i, hi => by
    simp at h
    rw [List.flatMap_cons, List.getElem?_append_right (by rw [hf, Nat.add_mul]; omega), hf, ← flat_get hf h i hi]
    congr 1
    rw [Nat.add_mul]
    omega
theorem flat_len {α β : Type} {f : α → List β} {k : Nat} (hf : ∀ x, (f x).length = k) (xs : List α) : (xs.flatMap f).length = xs.length * k := by
  induction xs with
  | nil => simp
  | cons y ys ih => rw [List.flatMap_cons, List.length_append, hf, ih, List.length_cons, Nat.add_mul]; omega


/-- Many parts. -/
def stars : List HP → HP
  | [] => emp
  | A :: L => A * stars L
theorem stars_snoc (L : List HP) (A : HP) : stars (L ++ [A]) = A * stars L := by
  induction L with
  | nil => rfl
  | cons B L ih => show B * stars (L ++ [A]) = A * (B * stars L); rw [ih, star_left]
theorem stars_pick {L : List HP} {A : HP} (h : A ∈ L) : ∃ R, stars L = A * R := by
  induction L with
  | nil => cases h
  | cons B L ih =>
    rcases List.mem_cons.1 h with rfl | h
    · exact ⟨_, rfl⟩
    · obtain ⟨R, e⟩ := ih h
      exact ⟨B * R, by show B * stars L = _; rw [e, star_left]⟩
theorem stars_mid (L M : List HP) (A : HP) : stars (L ++ A :: M) = A * stars (L ++ M) := by
  induction L with
  | nil => rfl
  | cons B L ih => show B * stars (L ++ A :: M) = A * (B * stars (L ++ M)); rw [ih, star_left]
theorem Row.addr {w : World} {e size n c : Nat} {A : Option Addr} {cs : List Value} {F : HP} (H : SepI w (Row e size (.slice A n c) n cs * F)) (h : 0 < n) : ∃ g, A = some ⟨g, 0, none⟩ := by
  rcases Row.open H with ⟨_, h0, _⟩ | ⟨g, cap, cur, hv, _⟩
  · omega
  · injection hv with hA; exact ⟨g, hA⟩
theorem made_eq (z : Array Value) (n : Nat) (hz : 0 < z.size) : (madeCells z (n * z.size)).toList = (List.replicate n z.toList).flatten := by
  apply List.ext_getElem?
  intro i
  rw [← List.flatMap_id]
  by_cases h : i < n * z.size
  · have h1 : i / z.size < n := Nat.div_lt_of_lt_mul (by rwa [Nat.mul_comm] at h)
    have h2 := Nat.mod_lt i hz
    have hd := Nat.div_add_mod i z.size
    have e2 : ((List.replicate n z.toList).flatMap id)[i]? = z.toList[i % z.size]? := by
      have hg : (List.replicate n z.toList)[i / z.size]? = some z.toList := by rw [List.getElem?_replicate, if_pos h1]
      have key : ∀ (m : Nat) (L : List (List Value)), (∀ x ∈ L, x.length = m) → ∀ (j : Nat) (x : List Value), L[j]? = some x → ∀ q, q < m → (L.flatMap id)[j * m + q]? = x[q]? := by
        intro m L
        induction L with
        | nil => intro _ j x hx; simp at hx
        | cons y ys ih =>
          intro hm j x hx q hq
          have hy := hm y (by simp)
          cases j with
          | zero =>
            simp at hx
            subst hx
            rw [List.flatMap_cons, Nat.zero_mul, Nat.zero_add, List.getElem?_append_left (by show q < y.length; omega)]
            rfl
          | succ j =>
            simp at hx
            rw [List.flatMap_cons, List.getElem?_append_right (by show y.length ≤ _; rw [hy, Nat.add_mul]; omega), ← ih (fun x hx => hm x (by simp [hx])) j x hx q hq]
            congr 1
            show (j + 1) * m + q - y.length = _
            rw [hy, Nat.add_mul]
            omega
      have := key z.size (List.replicate n z.toList) (fun x hx => by rw [(List.mem_replicate.1 hx).2, Array.length_toList]) (i / z.size) _ hg (i % z.size) h2
      rw [show i / z.size * z.size + i % z.size = i from by rw [Nat.mul_comm]; omega] at this
      exact this
    rw [e2]
    simp only [madeCells, Array.toList_map, Array.toList_range, List.getElem?_map, List.getElem?_range h, Option.map_some, Array.getElem?_toList]
    rw [getElem!_pos z _ h2, Array.getElem?_eq_getElem h2]
  · rw [List.getElem?_eq_none (by simp [madeCells]; omega), List.getElem?_eq_none]
    rw [List.length_flatMap]
    simp
    omega

section
variable {P : Program} {ops : Array Oper} {rest : List Oper} {o : Oper} {a : Act} {Q : Exit → Act → World → Prop}
/-- append(v, x): x one element, boxed in block gx (or several). -/
theorem ev_append {w : World} {S F : HP} {e size n : Nat} {v : Value} {cs : List Value} [H : SepI w S] (hgd : o.guard = none) (s x : Operand) (t : TypeId)
    (ho : o.op = .call { callee := .builtin .append, args := #[s, x], argTypes := #[t, t] }) (hs : a.eval s = v) [p : PickR S e size v n cs F]
    (bytes : Nat) (z : Value) (ht : P.underlying t = some (.slice e)) (hinfo : (P.info? e).map (fun i => (i.zero, i.size, i.bytes)) = some (some z, size, bytes)) (hz : z.cells.size = size) (hsz : 0 < size) (hb0 : 0 < bytes)
    (gx m c : Nat) (hx : a.eval x = .slice (some ⟨gx, 0, none⟩) m c) {news : Array Value} {te : TypeId} {fz : Nat × Nat} [hb : HasBlk S gx (.cells news te fz)] (hl : news.size = m * size) (h1 : ∀ u ∈ news.toList, u.oneCell' = true)
    (hbytes : (n + m) * bytes ≤ 140737488355328)
    (k : ∀ v1 w1, SepI w1 (Row e size v1 (n + m) (cs ++ news.toList) * F) → (∀ u [ExtI u w], ExtI u w1) → wpList P ops Q rest (a.put o.dst v1) w1) : wpList P ops Q (o :: rest) a w := by
  obtain ⟨i0, hi, hzz⟩ := Option.map_eq_some_iff.1 hinfo
  simp only [Prod.mk.injEq] at hzz
  obtain ⟨hz0, hz1, hz2⟩ := hzz
  have HR := H.pickR p
  have hlen : n + m ≤ 140737488355328 := Nat.le_trans (Nat.le_mul_of_pos_right _ hb0) hbytes
  refine wpList_append_own_at w hgd s x t ho 0 e i0 z size bytes ht hi hz0 hz1 hz2 hz hsz v n cs hs (Row.own HR) ⟨gx, 0, none⟩ m c news.toList hx (by rw [Array.length_toList, hl])
    (fun j u hj => ?_) h1 (by simp only [maxLen]; omega) hbytes (Nat.zero_le _) ?_
  · have hc := @cell_blk w S gx j news te fz H hb
    rw [Array.getElem?_toList] at hj
    rw [show ((⟨gx, 0, none⟩ : Addr).add j) = ⟨gx, j, none⟩ from by unfold Addr.add; split <;> simp_all, hc, hj]
  · intro v1 w1 hown hg _ hat
    refine k v1 w1 ?_ (fun u i => i.trans ⟨hg.os, hg.tape, hg.output, hg.size⟩)
    refine HR.turn fun h hh hk => ?_
    obtain ⟨hl1, ho1⟩ := hown
    obtain ⟨hl2, ho2⟩ := hh
    have frame : ∀ g, g < w.heap.size → h g = Option.none → w1.heap[g]? = w.heap[g]? := fun g hlt hn => hg.block g hlt (by
      rcases ho2 with ⟨rfl, _⟩ | ⟨g2, cap2, cur2, rfl, hg2, _⟩
      · simp [Value.ownBlock]
      · simp only [Value.ownBlock, ne_eq, Option.some.injEq]
        rintro rfl
        rw [hg2] at hn
        cases hn)
    rcases ho1 with ⟨rfl, hn0⟩ | ⟨g1, cap1, cur1, rfl, _, hg1, q1, q2, q3, q4⟩
    · exact ⟨fun _ => Option.none, ⟨hl1, .inl ⟨rfl, hn0⟩⟩, fun _ _ q => by simp at q, fun _ q => absurd rfl q, frame⟩
    · refine ⟨fun g => if g = g1 then some (.cells cur1 e (0, 0)) else Option.none, ⟨hl1, .inr ⟨g1, cap1, cur1, rfl, by simp, q1, q2, q3, q4⟩⟩, fun g u q => ?_, fun g q => ?_, frame⟩
      · by_cases eg : g = g1
        · subst eg; simp at q; subst q; exact hg1
        · simp [eg] at q
      · by_cases eg : g = g1
        · subst eg
          rcases hat with hat | hat
          · left
            rcases ho2 with ⟨rfl, _⟩ | ⟨g2, cap2, cur2, rfl, hg2, _⟩
            · simp [Value.ownBlock] at hat
            · simp only [Value.ownBlock, Option.some.injEq] at hat
              rw [hat, hg2]; simp
          · right
            simp only [Value.ownBlock, Option.some.injEq] at hat
            omega
        · simp [eg] at q
/-- make([]T, n). -/
theorem ev_make {w : World} {S : HP} [H : SepI w S] (hgd : o.guard = none) (t : TypeId) (x y : Operand) (ho : o.op = .makeSlice t x y) (n : Nat) (hx : a.eval x = .int .i64 n) (hy : a.eval y = .int .i64 n)
    (e size bytes : Nat) (z : Value) (ht : P.underlying t = some (.slice e)) (hinfo : (P.info? e).map (fun i => (i.zero, i.size, i.bytes)) = some (some z, size, bytes)) (hz : z.cells.size = size) (hsz : 0 < size) (hb0 : 0 < bytes) (hl : bytes * n ≤ 281474976710656)
    (k : ∀ g w1, SepI w1 (Row e size (.slice (some ⟨g, 0, none⟩) n n) n (List.replicate n z.cells.toList).flatten * S) → (∀ u [ExtI u w], ExtI u w1) → wpList P ops Q rest (a.put o.dst (.slice (some ⟨g, 0, none⟩) n n)) w1) : wpList P ops Q (o :: rest) a w := by
  obtain ⟨i0, hi, hzz⟩ := Option.map_eq_some_iff.1 hinfo
  simp only [Prod.mk.injEq] at hzz
  obtain ⟨hz0, hz1, hz2⟩ := hzz
  have hn : n ≤ 281474976710656 := Nat.le_trans (Nat.le_mul_of_pos_left _ hb0) hl
  refine wpList_make_full w hgd x y t ho 0 e i0 z size ht hi hz0 hz1 .i64 .i64 n n n hx hy rfl rfl (by rw [hz2]; exact hl) (by simp only [maxLen]; omega) (Nat.zero_le _) ?_
  intro w1 hown hg
  refine k w.heap.size w1 ?_ (fun u i => i.trans ⟨hg.os, hg.tape, hg.output, hg.size⟩)
  rw [← hz, made_eq _ _ (by rw [hz]; exact hsz), hz] at hown
  obtain ⟨hl1, ho1⟩ := hown
  rcases ho1 with ⟨hv, _⟩ | ⟨g1, cap1, cur1, hv, _, hg1, q1, q2, q3, q4⟩
  · cases hv
  · injection hv with hA _ hc
    injection hA with hA
    injection hA with hA
    subst hA; subst hc
    have H1 : SepI w1 (pts w.heap.size (.cells cur1 e (0, 0)) * S) := SepI.new H (Nat.le_refl _) hg1 (fun g hlt => hg.block g hlt (by simp))
    have H2 := Row.close (size := size) H1 q1 q2 q3
    rw [q4] at H2
    exact H2
end
end Go.Proofs.YtnioipbofopocaaDoor.SL
