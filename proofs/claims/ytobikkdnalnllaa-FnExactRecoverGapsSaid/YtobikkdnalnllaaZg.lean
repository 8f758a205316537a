/- The reading of a trace in memory: cells. Conditions: none; plain lemmas. -/
import Derived.Test.YtobikkdnalnllaaQc
import Derived.Test.YtobikkdnalnllaaQb
import Derived.Test.YtobikkdnalnllaaQa
namespace Go.Proofs.Ytobikkdnalnllaa
open Go.RowKit SL
set_option linter.unusedVariables false
set_option linter.unusedSimpArgs false
def flat3 (l : List (Int × Int × Int)) : List Int := l.flatMap (fun p => [p.1, p.2.1, p.2.2])
theorem flat3_len (l : List (Int × Int × Int)) : (flat3 l).length = l.length * 3 := flat_len (f := fun p : Int × Int × Int => [p.1, p.2.1, p.2.2]) (fun _ => rfl) l
/-- Triples of ints, as they lie. -/
def c3s (l : List (Int × Int × Int)) : List Value := l.flatMap (fun p => [.int .i64 p.1, .int .i64 p.2.1, .int .i64 p.2.2])
theorem c3s_flat (l : List (Int × Int × Int)) : c3s l = ints (flat3 l) := by
  unfold c3s ints flat3
  rw [List.map_flatMap]
  rfl
theorem c3s_snoc (l : List (Int × Int × Int)) (a b c : Int) : c3s (l ++ [(a, b, c)]) = c3s l ++ [.int .i64 a, .int .i64 b, .int .i64 c] := by simp [c3s]
theorem c3s_len (l : List (Int × Int × Int)) : (c3s l).length = l.length * 3 := flat_len (f := fun p : Int × Int × Int => [Value.int .i64 p.1, .int .i64 p.2.1, .int .i64 p.2.2]) (fun _ => rfl) l
theorem c3s_get {l : List (Int × Int × Int)} {k : Nat} {x : Int × Int × Int} (h : l[k]? = some x) : (c3s l)[k * 3]? = some (.int .i64 x.1) ∧ (c3s l)[k * 3 + 1]? = some (.int .i64 x.2.1) ∧ (c3s l)[k * 3 + 2]? = some (.int .i64 x.2.2) :=
  ⟨flat_get (f := fun p : Int × Int × Int => [Value.int .i64 p.1, .int .i64 p.2.1, .int .i64 p.2.2]) (k := 3) (fun _ => rfl) h 0 (by omega), flat_get (f := fun p : Int × Int × Int => [Value.int .i64 p.1, .int .i64 p.2.1, .int .i64 p.2.2]) (k := 3) (fun _ => rfl) h 1 (by omega), flat_get (f := fun p : Int × Int × Int => [Value.int .i64 p.1, .int .i64 p.2.1, .int .i64 p.2.2]) (k := 3) (fun _ => rfl) h 2 (by omega)⟩
theorem info_t3 : (Try.prog.info? 105).map (fun i => (i.zero, i.size, i.bytes)) = some (some (.agg #[.int .i64 0, .int .i64 0, .int .i64 0]), 3, 24) := by kernel_rfl
def cCl (l : List (Bool × Int)) : List Value := l.flatMap (fun x => [.bool x.1, .int .i64 x.2])
theorem cCl_len (l : List (Bool × Int)) : (cCl l).length = l.length * 2 := flat_len (f := fun x : Bool × Int => [Value.bool x.1, .int .i64 x.2]) (fun _ => rfl) l
theorem cCl_append (l m : List (Bool × Int)) : cCl (l ++ m) = cCl l ++ cCl m := by simp [cCl]
theorem cCl_snoc (l : List (Bool × Int)) (a : Bool) (b : Int) : cCl (l ++ [(a, b)]) = cCl l ++ [.bool a, .int .i64 b] := by simp [cCl]
theorem cCl_get {l : List (Bool × Int)} {k : Nat} {x : Bool × Int} (h : l[k]? = some x) : (cCl l)[k * 2]? = some (.bool x.1) ∧ (cCl l)[k * 2 + 1]? = some (.int .i64 x.2) :=
  ⟨flat_get (f := fun x : Bool × Int => [Value.bool x.1, .int .i64 x.2]) (k := 2) (fun _ => rfl) h 0 (by omega), flat_get (f := fun x : Bool × Int => [Value.bool x.1, .int .i64 x.2]) (k := 2) (fun _ => rfl) h 1 (by omega)⟩
theorem cCl_set {l : List (Bool × Int)} {k : Nat} {x : Bool × Int} {v : Int} (h : l[k]? = some x) : (cCl l).set (k * 2 + 1) (.int .i64 v) = cCl (l.set k (x.1, v)) := flat_set (f := fun x : Bool × Int => [Value.bool x.1, .int .i64 x.2]) (fun _ => rfl) h (by omega) rfl
theorem c3s_set {l : List (Int × Int × Int)} {k : Nat} {x : Int × Int × Int} {v : Int} (h : l[k]? = some x) : (c3s l).set (k * 3 + 2) (.int .i64 v) = c3s (l.set k (x.1, x.2.1, v)) := flat_set (f := fun p : Int × Int × Int => [Value.int .i64 p.1, .int .i64 p.2.1, .int .i64 p.2.2]) (fun _ => rfl) h (by omega) rfl
theorem cCl_one (l : List (Bool × Int)) : ∀ u ∈ cCl l, u.oneCell' = true := fun u hu => by
  unfold cCl at hu
  obtain ⟨p, _, hp⟩ := List.mem_flatMap.1 hu
  simp only [List.mem_cons, List.not_mem_nil, or_false] at hp
  rcases hp with rfl | rfl <;> rfl
theorem c3s_one (l : List (Int × Int × Int)) : ∀ u ∈ c3s l, u.oneCell' = true := fun u hu => by
  unfold c3s at hu
  obtain ⟨p, _, hp⟩ := List.mem_flatMap.1 hu
  simp only [List.mem_cons, List.not_mem_nil, or_false] at hp
  rcases hp with rfl | rfl | rfl <;> rfl
theorem ints_one (l : List Int) : ∀ u ∈ ints l, u.oneCell' = true := fun u hu => by
  unfold ints at hu
  obtain ⟨x, _, rfl⟩ := List.mem_map.1 hu
  rfl
theorem info_cl : (Try.prog.info? 147).map (fun i => (i.zero, i.size, i.bytes)) = some (some (.agg #[.bool false, .int .i64 0]), 2, 16) := by kernel_rfl
theorem info_sl : (Try.prog.info? 26).map (fun i => (i.zero, i.size, i.bytes)) = some (some (.slice none 0 0), 1, 24) := by kernel_rfl
/-- A row in a row. -/
structure Uv where
  l : List Int
  v : Value
def uH (x : Uv) : HP := Row 3 1 x.v x.l.length (ints x.l)
/-- Where the seven rows of a reading lie. -/
structure R4V where
  A1 : Option Addr
  c1 : Nat
  A2 : Option Addr
  c2 : Nat
  A3 : Option Addr
  c3 : Nat
  A4 : Option Addr
  c4 : Nat
  A5 : Option Addr
  c5 : Nat
  A6 : Option Addr
  c6 : Nat
  A7 : Option Addr
  c7 : Nat
  us : List Uv
abbrev r4a (A1 A2 A3 A4 A5 A6 A7 : Option Addr) (n1 n2 n3 n4 n5 n6 n7 c1 c2 c3 c4 c5 c6 c7 : Nat) : Array Value :=
  #[.slice A1 n1 c1, .slice A2 n2 c2, .slice A3 n3 c3, .slice A4 n4 c4, .slice A5 n5 c5, .slice A6 n6 c6, .slice A7 n7 c7]
def R4H (x : R4V) (r : R4) (S : HP) : HP :=
  Row 147 2 (.slice x.A1 r.calls.length x.c1) r.calls.length (cCl r.calls.reverse) * (Row 105 3 (.slice x.A2 r.panics.length x.c2) r.panics.length (c3s r.panics) * (Row 3 1 (.slice x.A3 r.depths.length x.c3) r.depths.length (ints r.depths) *
  (Row 26 1 (.slice x.A4 x.us.length x.c4) x.us.length (x.us.map (·.v)) * (stars (x.us.map uH) * (Row 112 2 (.slice x.A5 r.recovers.length x.c5) r.recovers.length (cPr r.recovers) * (Row 3 1 (.slice x.A6 r.replaced.length x.c6) r.replaced.length (ints r.replaced) *
  (Row 3 1 (.slice x.A7 r.before.length x.c7) r.before.length (ints r.before) * S)))))))
def r4V (x : R4V) (r : R4) : Value := .agg (r4a x.A1 x.A2 x.A3 x.A4 x.A5 x.A6 x.A7 r.calls.length r.panics.length r.depths.length x.us.length r.recovers.length r.replaced.length r.before.length x.c1 x.c2 x.c3 x.c4 x.c5 x.c6 x.c7)
/-- A reading is handed back. -/
def R4P (S : HP) (r : R4) (w : World) (e : Ending) (w' : World) : Prop := ∃ x : R4V, x.us.map (·.l) = r.unwound ∧ e = .returned (r4V x r) ∧ Post w (R4H x r S) w'
theorem info_r4 : (Try.prog.info? 103).map (·.size) = some 7 := by kernel_rfl
end Go.Proofs.Ytobikkdnalnllaa
