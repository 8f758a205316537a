/- The machines' memory: events, places, frames of four registers. Conditions: none. -/
import Derived.Test.YtobikkdnalnllaaQb
import Derived.Test.YtobikkdnalnllaaQa
import Derived.Laws.Tables
import Derived.StillTailTactics
import Derived.Maps.Own
import Derived.WideKeyPair
namespace Go.Proofs.Ytobikkdnalnllaa
open Go.RowKit SL
set_option linter.unusedVariables false
set_option linter.unusedSimpArgs false
def cEv (e : Ev) : List Value := [.int .i64 e.k, .int .i64 e.f, .int .i64 e.v]
def cEvs (l : List Ev) : List Value := l.flatMap cEv
theorem cEvs_snoc (l : List Ev) (e : Ev) : cEvs (l ++ [e]) = cEvs l ++ [.int .i64 e.k, .int .i64 e.f, .int .i64 e.v] := by simp [cEvs, cEv]
theorem cEvs_len (l : List Ev) : (cEvs l).length = l.length * 3 := flat_len (f := cEv) (fun _ => rfl) l
theorem cEvs_get {l : List Ev} {k : Nat} {x : Ev} (h : l[k]? = some x) : (cEvs l)[k * 3]? = some (.int .i64 x.k) ∧ (cEvs l)[k * 3 + 1]? = some (.int .i64 x.f) ∧ (cEvs l)[k * 3 + 2]? = some (.int .i64 x.v) :=
  ⟨flat_get (f := cEv) (k := 3) (fun _ => rfl) h 0 (by omega), flat_get (f := cEv) (k := 3) (fun _ => rfl) h 1 (by omega), flat_get (f := cEv) (k := 3) (fun _ => rfl) h 2 (by omega)⟩
theorem info_ev : (Try.prog.info? 75).map (fun i => (i.zero, i.size, i.bytes)) = some (some (.agg #[.int .i64 0, .int .i64 0, .int .i64 0]), 3, 24) := by kernel_rfl
/-- Pairs of ints, as they lie. -/
def cPr (l : List (Int × Int)) : List Value := l.flatMap (fun p => [.int .i64 p.1, .int .i64 p.2])
theorem cPr_snoc (l : List (Int × Int)) (a b : Int) : cPr (l ++ [(a, b)]) = cPr l ++ [.int .i64 a, .int .i64 b] := by simp [cPr]
theorem cPr_len (l : List (Int × Int)) : (cPr l).length = l.length * 2 := flat_len (f := fun p : Int × Int => [Value.int .i64 p.1, .int .i64 p.2]) (fun _ => rfl) l
theorem cPr_get {l : List (Int × Int)} {k : Nat} {x : Int × Int} (h : l[k]? = some x) : (cPr l)[k * 2]? = some (.int .i64 x.1) ∧ (cPr l)[k * 2 + 1]? = some (.int .i64 x.2) :=
  ⟨flat_get (f := fun p : Int × Int => [Value.int .i64 p.1, .int .i64 p.2]) (k := 2) (fun _ => rfl) h 0 (by omega), flat_get (f := fun p : Int × Int => [Value.int .i64 p.1, .int .i64 p.2]) (k := 2) (fun _ => rfl) h 1 (by omega)⟩
theorem info_pr : (Try.prog.info? 112).map (fun i => (i.zero, i.size, i.bytes)) = some (some (.agg #[.int .i64 0, .int .i64 0]), 2, 16) := by kernel_rfl
/-- Four registers. -/
structure R4s where
  a : Int
  b : Int
  c : Int
  d : Int
def R4s.l (r : R4s) : List Int := [r.a, r.b, r.c, r.d]
theorem R4s.of {rs : List Int} (h : rs.length = 4) : ∃ r : R4s, rs = r.l := by
  match rs, h with
  | [a, b, c, d], _ => exact ⟨⟨a, b, c, d⟩, rfl⟩
def R4s.set (r : R4s) (k : Nat) (x : Int) : R4s := match k with
  | 0 => { r with a := x }
  | 1 => { r with b := x }
  | 2 => { r with c := x }
  | 3 => { r with d := x }
  | _ => r
theorem R4s.set_l (r : R4s) {k : Nat} (hk : k < 4) (x : Int) : regSet r.l k x = (r.set k x).l := by
  match k, hk with
  | 0, _ => rfl
  | 1, _ => rfl
  | 2, _ => rfl
  | 3, _ => rfl
theorem R4s.at_cases (r : R4s) {k : Nat} (hk : k < 4) : (k = 0 ∧ regAt r.l k = r.a) ∨ (k = 1 ∧ regAt r.l k = r.b) ∨ (k = 2 ∧ regAt r.l k = r.c) ∨ (k = 3 ∧ regAt r.l k = r.d) := by
  match k, hk with
  | 0, _ => exact .inl ⟨rfl, rfl⟩
  | 1, _ => exact .inr (.inl ⟨rfl, rfl⟩)
  | 2, _ => exact .inr (.inr (.inl ⟨rfl, rfl⟩))
  | 3, _ => exact .inr (.inr (.inr ⟨rfl, rfl⟩))
/-- The reference's machine and frame as values. -/
abbrev smV (P vt vs : Value) (fuel sh mk dp : Int) (sp : Bool) : Value := .agg #[P, .int .i64 fuel, .bool sp, .int .i64 sh, .int .i64 mk, .int .i64 dp, vt, vs]
abbrev sfV (f dep : Int) (r : R4s) (vd : Value) (ki va : Int) (lv df pg : Bool) (pa : Int) (rc : Bool) (ou : Int) : Value :=
  .agg #[.int .i64 f, .int .i64 dep, .int .i64 r.a, .int .i64 r.b, .int .i64 r.c, .int .i64 r.d, vd, .int .i64 ki, .int .i64 va, .bool lv, .bool df, .bool pg, .int .i64 pa, .bool rc, .int .i64 ou]
end Go.Proofs.Ytobikkdnalnllaa
namespace Go.Proofs.Ytobikkdnalnllaa.SL
open Go.RowKit
set_option linter.unusedVariables false
section
variable {P : Program} {ops : Array Oper} {rest : List Oper} {o : Oper} {a : Act} {Q : Exit → Act → World → Prop}
theorem SepI.setRow {w : World} {S S' : HP} {g : Nat} {old cells : Array Value} {t : TypeId} (H : SepI w S) (u : UpdB S g (.cells old t (0, 0)) (.cells cells t (0, 0)) S') : SepI (w.setRow g cells) S' := by
  obtain ⟨F, rfl, rfl⟩ := u.out
  have hb := H.block
  refine H.write ?_ (fun k _ hk => ?_)
  · simp [World.setRow, Array.getElem?_modify, hb]
  · simp only [World.setRow, Array.getElem?_modify]
    rw [if_neg (fun e => hk e.symm)]
theorem ev_store {w : World} {S S' : HP} [H : SepI w S] (hgd : o.guard = none) (ty : TypeId) (x y : Operand) (ho : o.op = .store ty x y) (g : Nat) (cells : Array Value) (hx : a.eval x = .pointer (some ⟨g, 0, none⟩)) (hy : a.eval y = .agg cells)
    {t : TypeId} {old : Array Value} [h : HasBlk S g (.cells old t (0, 0))] (hi : (P.info? ty).map (·.size) = some cells.size) (hold : old.size = cells.size) (h1 : cells.all (·.oneCell') = true)
    [u : UpdB S g (.cells old t (0, 0)) (.cells cells t (0, 0)) S'] (k : ∀ w1, SepI w1 S' → (∀ u [ExtI u w], ExtI u w1) → wpList P ops Q rest (a.put o.dst undef) w1) : wpList P ops Q (o :: rest) a w :=
  wpList_store_row hgd ty x y ho g cells hx hy t old (h.block H) hi hold h1
    (k _ (SepI.setRow H u) (fun v i => i.trans ⟨rfl, rfl, rfl, by simp [World.setRow]⟩))
end
end Go.Proofs.Ytobikkdnalnllaa.SL
namespace Go.Proofs.Ytobikkdnalnllaa
open Go.RowKit SL
theorem info_sm : (Try.prog.info? 121).map (·.size) = some 8 := by kernel_rfl
theorem info_sf : (Try.prog.info? 123).map (·.size) = some 15 := by kernel_rfl
end Go.Proofs.Ytobikkdnalnllaa
namespace Go.Proofs.Ytobikkdnalnllaa
open Go.RowKit SL
attribute [local go_sem] cell_blk frozen_blk lt_blk cell_at frozen_row lt_row
set_option linter.unusedVariables false
set_option linter.unusedSimpArgs false
abbrev TRow (v : Value) (l : List Ev) : HP := Row 75 3 v l.length (cEvs l)
/-- What l2Tell hands back. -/
def TellS (S : HP) (P vs : Value) (fuel sh mk dp : Int) (sp : Bool) (t : List Ev) (w : World) (e : Ending) (w' : World) : Prop := ∃ vt, e = .returned (smV P vt vs fuel sh mk dp sp) ∧ Post w (Row 75 3 vt t.length (cEvs t) * S) w'
set_option maxRecDepth 100000 in
set_option maxHeartbeats 2000000 in
theorem spec_l2Tell (S : HP) (w : World) (A : Option Addr) (n c : Nat) (vt : Value) (A2 : Option Addr) (n2 c2 : Nat) (t : List Ev) [H : SepI w (Row 75 3 vt t.length (cEvs t) * S)] (ht : t.length ≤ 1048576) (fuel sh mk dp : Int) (sp : Bool) (k f v : Int) :
    Calls Try.prog 116 #[smV (.slice A n c) vt (.slice A2 n2 c2) fuel sh mk dp sp, .int .i64 k, .int .i64 f, .int .i64 v] w (TellS S (.slice A n c) (.slice A2 n2 c2) fuel sh mk dp sp (t ++ [⟨k, f, v⟩]) w) := by
  obtain ⟨A1, c1, rfl, hc1, hc1'⟩ := Row.form H
  obtain ⟨m, hm⟩ : ∃ m, m = t.length := ⟨_, rfl⟩
  have HM := Hd.mk hm
  rw [← hm] at H ht hc1
  rw [← hm]
  clear hm
  obtain ⟨g4, hg4⟩ : ∃ g4, g4 = w.heap.size := ⟨_, rfl⟩
  go_enter Try.func116, Try.ntmps116
  go_wp2_with (at_builtin; go_must (refine ev_append (v := .slice A1 m c1) rfl _ _ 58 rfl rfl 24 _ Try.underlying58 info_ev rfl (by decide) (by decide) (w.heap.size + 2) 1 1 rfl rfl (by simp [Value.oneCell']) (by omega) ?_); intro v1 w4 HS4 HE4; obtain ⟨A5, c5, rfl, hc5, hc5'⟩ := Row.form HS4)
  refine bodyPost_ret (v := smV (.slice A n c) (.slice A5 (m + 1) c5) (.slice A2 n2 c2) fuel sh mk dp sp) (by simp [results, Try.results116, go_sem]) rfl ?_
  exact ⟨.slice A5 (m + 1) c5, rfl, Post.mk' (SepI.cast (Ent.sep (S := _) (T := Row 75 3 (.slice A5 (m + 1) c5) (m + 1) (cEvs t ++ [.int .i64 k, .int .i64 f, .int .i64 v]) * S) inferInstance inferInstance) (by rw [cEvs_snoc, List.length_append, ← HM.out]; rfl)) inferInstance⟩
theorem spec_l2Wrap (w : World) (x : Int) (h0 : -131072 ≤ x) (h1 : x ≤ 131072) :
    Calls Try.prog 152 #[.int .i64 x] w fun e w' => e = .returned (.int .i64 (w16s x)) ∧ w' = w := by
  have e1 : IntKind.i64.wrap (x + 32767) = x + 32767 := IntWalk.i64_in _ (by omega)
  have e2 : IntKind.i64.wrap (x + 32767 + 1) = x + 32767 + 1 := IntWalk.i64_in _ (by omega)
  have e3 : IntKind.i64.wrap (x + 32767 + 1 + 131072) = x + 32767 + 1 + 131072 := IntWalk.i64_in _ (by omega)
  go_enter Try.func152, Try.ntmps152
  go_wp2
  go_ret
  exact ⟨ret_i (by unfold w16s; omega), rfl⟩
end Go.Proofs.Ytobikkdnalnllaa
namespace Go.Proofs.Ytobikkdnalnllaa
open Go.RowKit SL
attribute [local go_sem] cell_blk frozen_blk lt_blk cell_at frozen_row lt_row
set_option linter.unusedVariables false
set_option linter.unusedSimpArgs false
/-- The reference's machine and frame as values. -/
abbrev mV (P vt vs : Value) (fuel : Int) (m : SM) : Value := smV P vt vs fuel m.shared m.made m.deep m.spent
abbrev fV (c : SF) (r : R4s) (vd : Value) : Value := sfV c.f c.depth r vd c.kind c.value c.lv c.df c.pg c.pa c.rc c.outer
abbrev frA (f dep : Int) (r : R4s) (vd : Value) (ki va : Int) (lv df pg : Bool) (pa : Int) (rc : Bool) (ou : Int) : Array Value :=
  #[.int .i64 f, .int .i64 dep, .int .i64 r.a, .int .i64 r.b, .int .i64 r.c, .int .i64 r.d, vd, .int .i64 ki, .int .i64 va, .bool lv, .bool df, .bool pg, .int .i64 pa, .bool rc, .int .i64 ou]
theorem fr_get {f dep : Int} {r : R4s} {vd : Value} {ki va : Int} {lv df pg : Bool} {pa : Int} {rc : Bool} {ou : Int} {k : Nat} (hk : k < 4) : (frA f dep r vd ki va lv df pg pa rc ou)[2 + k]? = some (.int .i64 (regAt r.l k)) := by
  match k, hk with
  | 0, _ => rfl
  | 1, _ => rfl
  | 2, _ => rfl
  | 3, _ => rfl
theorem fr_set {f dep : Int} {r : R4s} {vd : Value} {ki va : Int} {lv df pg : Bool} {pa : Int} {rc : Bool} {ou : Int} {k : Nat} (hk : k < 4) {x : Int} {r' : R4s} (h : r' = r.set k x) : (frA f dep r vd ki va lv df pg pa rc ou).setIfInBounds (2 + k) (.int .i64 x) = frA f dep r' vd ki va lv df pg pa rc ou := by
  subst h
  match k, hk with
  | 0, _ => rfl
  | 1, _ => rfl
  | 2, _ => rfl
  | 3, _ => rfl
/-- What a step of the reference hands back. -/
def StepS (S : HP) (P vs vd : Value) (fuel : Int) (q : SM × SF) (w : World) (e : Ending) (w' : World) : Prop := ∃ vt r, e = .returned (.tuple #[mV P vt vs fuel q.1, fV q.2 r vd]) ∧ q.2.regs = r.l ∧ Post w (Row 75 3 vt q.1.trace.length (cEvs q.1.trace) * S) w'
theorem StepS.of {S : HP} {P vs vd : Value} {fuel : Int} {q : SM × SF} {w w' : World} {m' : SM} {c' : SF} {r : R4s} {vt : Value} (hq : q = (m', c')) (hr : c'.regs = r.l) (hp : Post w (Row 75 3 vt m'.trace.length (cEvs m'.trace) * S) w') : StepS S P vs vd fuel q w (.returned (.tuple #[mV P vt vs fuel m', fV c' r vd])) w' := by
  subst hq
  exact ⟨vt, r, rfl, hr, hp⟩
/-- What a step hands back that may tell. -/
def MakeT (S : HP) (P vs vd : Value) (fuel : Int) (q : SM × SF × Int) (w : World) (e : Ending) (w' : World) : Prop := ∃ vt r, e = .returned (.tuple #[mV P vt vs fuel q.1, fV q.2.1 r vd, .int .i64 q.2.2]) ∧ q.2.1.regs = r.l ∧ Post w (Row 75 3 vt q.1.trace.length (cEvs q.1.trace) * S) w'
theorem MakeT.of {S : HP} {P vt vs vd : Value} {fuel : Int} {q : SM × SF × Int} {w w' : World} {m' : SM} {c' : SF} {at_ : Int} {r : R4s} (hq : q = (m', c', at_)) (hr : c'.regs = r.l) (hp : Post w (Row 75 3 vt m'.trace.length (cEvs m'.trace) * S) w') : MakeT S P vs vd fuel q w (.returned (.tuple #[mV P vt vs fuel m', fV c' r vd, .int .i64 at_])) w' := by
  subst hq
  exact ⟨vt, r, rfl, hr, hp⟩
namespace SL
section
variable {P : Program} {ops : Array Oper} {rest : List Oper} {o : Oper} {a : Act} {Q : Exit → Act → World → Prop}
/-- An operation that yields a value and turns nothing. -/
theorem ev_val {w : World} (hgd : o.guard = none) (v : Value) (h : (execOp a.eval o).run P w = .ok (.value v) w) (k : wpList P ops Q rest (a.put o.dst v) w) : wpList P ops Q (o :: rest) a w := by
  have hw : Region.wanted o (yielded ops a.tmps) = true := by simp [Region.wanted, hgd]
  unfold wpList
  rw [if_pos hw]
  left
  unfold Oper.wp
  rw [h]
  exact k
end
end SL
theorem cPr_one (l : List (Int × Int)) : ∀ u ∈ cPr l, u.oneCell' = true := fun u hu => by
  unfold cPr at hu
  obtain ⟨p, _, hp⟩ := List.mem_flatMap.1 hu
  simp only [List.mem_cons, List.not_mem_nil, or_false] at hp
  rcases hp with rfl | rfl <;> rfl
theorem Row.none_nil {w : World} {e size n c : Nat} {A : Option Addr} {cs : List Value} {F : HP} (H : SepI w (Row e size (.slice A n c) n cs * F)) : A = none → n = 0 ∧ c = 0 := fun h => by
  rcases Row.open H with ⟨hv, h0, _⟩ | ⟨g, cap, cur, hv, _⟩
  · injection hv with _ _ hc; exact ⟨h0, hc⟩
  · injection hv with hA; rw [h] at hA; cases hA
/-- What the deferring step hands back. -/
def Make5 (S : HP) (P vs : Value) (fuel : Int) (q : SM × SF × Int) (w : World) (e : Ending) (w' : World) : Prop := ∃ vt vd r, e = .returned (.tuple #[mV P vt vs fuel q.1, fV q.2.1 r vd, .int .i64 q.2.2]) ∧ q.2.1.regs = r.l ∧ Post w (Row 112 2 vd q.2.1.defers.length (cPr q.2.1.defers) * (Row 75 3 vt q.1.trace.length (cEvs q.1.trace) * S)) w'
namespace SL
section
variable {P : Program} {ops : Array Oper} {rest : List Oper} {o : Oper} {a : Act} {Q : Exit → Act → World → Prop}
/-- An operation that yields a value and leaves a world. -/
theorem ev_run {w w1 : World} (hgd : o.guard = none) (v : Value) (h : (execOp a.eval o).run P w = .ok (.value v) w1) (k : wpList P ops Q rest (a.put o.dst v) w1) : wpList P ops Q (o :: rest) a w := by
  have hw : Region.wanted o (yielded ops a.tmps) = true := by simp [Region.wanted, hgd]
  unfold wpList
  rw [if_pos hw]
  left
  unfold Oper.wp
  rw [h]
  exact k
end
end SL
/-- What a call of the reference hands back. -/
def CallP (S : HP) (P : Value) (fuel : Int) (q : SM × SF) (w : World) (e : Ending) (w' : World) : Prop := ∃ vt vs vd r, e = .returned (.tuple #[mV P vt vs fuel q.1, fV q.2 r vd]) ∧ q.2.regs = r.l ∧ Post w (Row 75 3 (vt) q.1.trace.length (cEvs q.1.trace) * (Row 112 2 (vs) q.1.seen.length (cPr q.1.seen) * (Row 112 2 (vd) q.2.defers.length (cPr q.2.defers) * S))) w'
/-- The contract of l2Call at one depth. -/
def CallC (A : Option Addr) (n c0 : Nat) (bs : List Bd) (fuel dep : Int) (Pre : SM → SF → Prop) (call : CallS) : Prop := ∀ (S : HP) (w : World) (vt vs : Value) (m : SM) (c : SF) (r : R4s), Rd S A (cBds bs) → Bodies S bs →
  SepI w (Row 75 3 (vt) m.trace.length (cEvs m.trace) * (Row 112 2 (vs) m.seen.length (cPr m.seen) * S)) → c.regs = r.l → c.defers = [] → c.depth = dep → Pre m c →
  Calls Try.prog 103 #[mV (.slice A n c0) vt vs fuel m, fV c r (.slice none 0 0)] w (CallP S (.slice A n c0) fuel (call m c) w)
/-- What an inner call hands back. -/
def InnerP (S : HP) (P vd : Value) (fuel : Int) (q : SM × SF × Int) (w : World) (e : Ending) (w' : World) : Prop := ∃ vt vs r, e = .returned (.tuple #[mV P vt vs fuel q.1, fV q.2.1 r vd, .int .i64 q.2.2]) ∧ q.2.1.regs = r.l ∧ Post w (Row 75 3 (vt) q.1.trace.length (cEvs q.1.trace) * (Row 112 2 (vs) q.1.seen.length (cPr q.1.seen) * S)) w'
theorem InnerP.of {S : HP} {P vt vs vd : Value} {fuel : Int} {q : SM × SF × Int} {w w' : World} {m' : SM} {c' : SF} {at_ : Int} {r : R4s} (hq : q = (m', c', at_)) (hr : c'.regs = r.l) (hp : Post w (Row 75 3 (vt) m'.trace.length (cEvs m'.trace) * (Row 112 2 (vs) m'.seen.length (cPr m'.seen) * S)) w') : InnerP S P vd fuel q w (.returned (.tuple #[mV P vt vs fuel m', fV c' r vd, .int .i64 at_])) w' := by
  subst hq
  exact ⟨vt, vs, r, rfl, hr, hp⟩
end Go.Proofs.Ytobikkdnalnllaa
namespace Go.Proofs.Ytobikkdnalnllaa.SL
open Go.RowKit
set_option linter.unusedVariables false
/-- Some part that is one of many. -/
def exH {α : Type} (Q : α → HP) : HP := fun h => ∃ x, Q x h
theorem SepI.exO {α : Type} {w : World} {Q : α → HP} {F : HP} (H : SepI w (exH Q * F)) : ∃ x, SepI w (Q x * F) := by
  obtain ⟨h, ⟨h1, h2, ⟨x, hx⟩, b, d, e⟩, k⟩ := H.out
  exact ⟨x, ⟨⟨h, ⟨h1, h2, hx, b, d, e⟩, k⟩⟩⟩
theorem SepI.exS {α : Type} {w : World} {Q : α → HP} {F : HP} (x : α) (H : SepI w (Q x * F)) : SepI w (exH Q * F) := by
  obtain ⟨h, ⟨h1, h2, hx, b, d, e⟩, k⟩ := H.out
  exact ⟨⟨h, ⟨h1, h2, ⟨x, hx⟩, b, d, e⟩, k⟩⟩
/-- A map from pairs of ints to bools, of at most n entries. -/
def MapH (b n : Nat) : HP := fun h => ∃ es clock, h b = some (.map es clock) ∧ WideElems.Fit (H := Unit) Try.prog 112 (plainElem Try.prog 4) es clock ∧ es.size ≤ n
theorem MapH.mono {w : World} {b n m : Nat} {F : HP} (H : SepI w (MapH b n * F)) (h : n ≤ m) : SepI w (MapH b m * F) := by
  obtain ⟨p, ⟨h1, h2, ⟨es, clock, hb, hf, hs⟩, b, d, e⟩, k⟩ := H.out
  exact ⟨⟨p, ⟨h1, h2, ⟨es, clock, hb, hf, Nat.le_trans hs h⟩, b, d, e⟩, k⟩⟩
theorem MapH.own {w : World} {b n : Nat} {F : HP} (H : SepI w (MapH b n * F)) : ∃ D : DataW Unit, w.ownsMap Try.prog 112 (plainElem Try.prog 4) b n D := by
  obtain ⟨p, ⟨h1, h2, ⟨es, clock, hb, hf, hs⟩, _, d, e⟩, k⟩ := H.out
  exact ⟨_, es, clock, k b _ (by rw [e b, hb]; rfl), hf, hs, rfl⟩
theorem MapH.put {w w' : World} {b n m : Nat} {D : DataW Unit} {F : HP} (H : SepI w (MapH b n * F)) (ho : w'.ownsMap Try.prog 112 (plainElem Try.prog 4) b m D) (hg : w.grownBy w' (some b)) : SepI w' (MapH b m * F) :=
  H.turn fun h ⟨es, clock, hb, _, _⟩ _ => by
    obtain ⟨es', clock', hb', hf', hs', _⟩ := ho
    refine ⟨fun k => if k = b then some (.map es' clock') else none, ⟨es', clock', by simp, hf', hs'⟩, fun k p q => ?_, fun k q => ?_, fun k lt hn => hg.block k lt (by rintro h; injection h with h; rw [h, hb] at hn; cases hn)⟩
    · by_cases e : k = b
      · subst e; simp at q; subst q; exact hb'
      · simp [e] at q
    · by_cases e : k = b
      · subst e; left; rw [hb]; simp
      · simp [e] at q
theorem pair_arr : WideMaps.ArrKey Try.prog 112 3 2 := ⟨Try.underlying112, by kernel_rfl, by kernel_rfl, by kernel_rfl⟩
theorem pair_law : Maps.Keyed Try.prog 112 := Maps.Keyed.of_law pair_arr.law
theorem types_some : ∃ m, Try.prog.types.size = m + 1 := ⟨Try.prog.types.size - 1, by have : 0 < Try.prog.types.size := of_decide_eq_true (by kernel_rfl); omega⟩
theorem i64_wf {a : Int} (h0 : -1048576 ≤ a) (h1 : a ≤ 1048576) : (Lit.int .i64 a).wf = true := by
  simp [Lit.wf, IntKind.min, IntKind.max, IntKind.bits, IntKind.signed] <;> omega
section
variable {ops : Array Oper} {rest : List Oper} {o : Oper} {a : Act} {Q : Exit → Act → World → Prop}
/-- m[k] = true. -/
theorem ev_mapset {w : World} {S F : HP} {b n : Nat} [H : SepI w S] (hgd : o.guard = none) (m x v : Operand) (ho : o.op = Op.mapUpdate 96 m x v) (hm : a.eval m = .map (some b)) [p : Pick S (MapH b n) F] (hn : n ≤ 1048576)
    (i j : Int) (hx : a.eval x = .agg #[.int .i64 i, .int .i64 j]) (hv : a.eval v = .bool true) (hi : -1048576 ≤ i ∧ i ≤ 1048576) (hj : -1048576 ≤ j ∧ j ≤ 1048576)
    (k : ∀ w1, SepI w1 (MapH b (n + 1) * F) → (∀ u [ExtI u w], ExtI u w1) → wpList Try.prog ops Q rest (a.put o.dst undef) w1) : wpList Try.prog ops Q (o :: rest) a w := by
  have HP := H.pick p
  obtain ⟨D, hD⟩ := MapH.own HP
  refine wpList_mapUpdate_own w hgd m x v 96 ho 112 4 pair_law Try.underlying96 _ b n D hm hD (by unfold maxLen; omega) _ _ _ hx hv
    (WideMaps.keyOf_pair pair_arr Try.underlying3 types_some (i64_wf hi.1 hi.2) (i64_wf hj.1 hj.2)) _ [] (plainElem_bool Try.underlying4 true) ?_
  intro w1 ho1 hg1
  exact k w1 (MapH.put HP ho1 hg1) (fun u i => i.trans ⟨hg1.os, hg1.tape, hg1.output, hg1.size⟩)
end
theorem flat_set {α β : Type} {f : α → List β} {n : Nat} (hf : ∀ x, (f x).length = n) : ∀ {l : List α} {k j : Nat} {x y : α} {v : β}, l[k]? = some x → j < n → f y = (f x).set j v → (l.flatMap f).set (k * n + j) v = (l.set k y).flatMap f
  | [], k, j, x, y, v, h, hj, he => by simp at h
  | a :: l, 0, j, x, y, v, h, hj, he => by
    simp at h
    subst h
    rw [List.flatMap_cons, List.set_cons_zero, List.flatMap_cons, he, Nat.zero_mul, Nat.zero_add, List.set_append_left _ _ (by rw [hf]; exact hj)]
  | a :: l, k + 1, j, x, y, v, h, hj, he => by
    simp at h
    rw [List.flatMap_cons, List.set_cons_succ, List.flatMap_cons, List.set_append_right _ _ (by rw [hf, Nat.add_mul]; omega), hf, ← flat_set hf h hj he]
    congr 2
    rw [Nat.add_mul]
    omega
end Go.Proofs.Ytobikkdnalnllaa.SL
namespace Go.Proofs.Ytobikkdnalnllaa
open Go.RowKit SL
set_option linter.unusedVariables false
def cCi (c : Ci) : List Value := [.int .i64 c.fn, .int .i64 c.up, .bool c.df, .int .i64 c.en, .int .i64 c.va, .int .i64 c.ar]
def cCis (l : List Ci) : List Value := l.flatMap cCi
structure Pv where
  p : Pn
  u : Value
def cPv (x : Pv) : List Value := [.int .i64 x.p.ca, .int .i64 x.p.fn, .int .i64 x.p.va, .int .i64 x.p.de, .int .i64 x.p.fa, .int .i64 x.p.by_, .int .i64 x.p.la, .bool x.p.ag, x.u]
def cPvs (l : List Pv) : List Value := l.flatMap cPv
def cRc (r : Rc) : List Value := [.int .i64 r.ca, .int .i64 r.sa, .int .i64 r.pa]
def cRcs (l : List Rc) : List Value := l.flatMap cRc
theorem cCis_len (l : List Ci) : (cCis l).length = l.length * 6 := flat_len (f := cCi) (fun _ => rfl) l
theorem cPvs_len (l : List Pv) : (cPvs l).length = l.length * 9 := flat_len (f := cPv) (fun _ => rfl) l
theorem cRcs_len (l : List Rc) : (cRcs l).length = l.length * 3 := flat_len (f := cRc) (fun _ => rfl) l
theorem cCis_snoc (l : List Ci) (c : Ci) : cCis (l ++ [c]) = cCis l ++ cCi c := by simp [cCis]
theorem cPvs_snoc (l : List Pv) (c : Pv) : cPvs (l ++ [c]) = cPvs l ++ cPv c := by simp [cPvs]
theorem cRcs_snoc (l : List Rc) (c : Rc) : cRcs (l ++ [c]) = cRcs l ++ cRc c := by simp [cRcs]
theorem cCis_get {l : List Ci} {k : Nat} {x : Ci} (h : l[k]? = some x) {i : Nat} (hi : i < 6) : (cCis l)[k * 6 + i]? = (cCi x)[i]? := flat_get (f := cCi) (k := 6) (fun _ => rfl) h i hi
theorem cPvs_get {l : List Pv} {k : Nat} {x : Pv} (h : l[k]? = some x) {i : Nat} (hi : i < 9) : (cPvs l)[k * 9 + i]? = (cPv x)[i]? := flat_get (f := cPv) (k := 9) (fun _ => rfl) h i hi
theorem cRcs_get {l : List Rc} {k : Nat} {x : Rc} (h : l[k]? = some x) {i : Nat} (hi : i < 3) : (cRcs l)[k * 3 + i]? = (cRc x)[i]? := flat_get (f := cRc) (k := 3) (fun _ => rfl) h i hi
theorem cCis_set {l : List Ci} {k : Nat} {x y : Ci} {j : Nat} {v : Value} (h : l[k]? = some x) (hj : j < 6) (he : cCi y = (cCi x).set j v) : (cCis l).set (k * 6 + j) v = cCis (l.set k y) := flat_set (f := cCi) (fun _ => rfl) h hj he
theorem cPvs_set {l : List Pv} {k : Nat} {x y : Pv} {j : Nat} {v : Value} (h : l[k]? = some x) (hj : j < 9) (he : cPv y = (cPv x).set j v) : (cPvs l).set (k * 9 + j) v = cPvs (l.set k y) := flat_set (f := cPv) (fun _ => rfl) h hj he
theorem info_ci : (Try.prog.info? 92).map (fun i => (i.zero, i.size, i.bytes)) = some (some (.agg #[.int .i64 0, .int .i64 0, .bool false, .int .i64 0, .int .i64 0, .int .i64 0]), 6, 48) := by kernel_rfl
theorem info_pn : (Try.prog.info? 78).map (fun i => (i.zero, i.size, i.bytes)) = some (some (.agg #[.int .i64 0, .int .i64 0, .int .i64 0, .int .i64 0, .int .i64 0, .int .i64 0, .int .i64 0, .bool false, .slice none 0 0]), 9, 88) := by kernel_rfl
theorem info_rc : (Try.prog.info? 90).map (fun i => (i.zero, i.size, i.bytes)) = some (some (.agg #[.int .i64 0, .int .i64 0, .int .i64 0]), 3, 24) := by kernel_rfl
theorem info_pd : (Try.prog.info? 191).map (fun i => (i.zero, i.size, i.bytes)) = some (some (.agg #[.int .i64 0, .int .i64 0]), 2, 16) := by kernel_rfl
/-- The row of what a panic has unwound. -/
def unH (x : Pv) : HP := Row 3 1 x.u x.p.un.length (ints x.p.un)
/-- The machine's own cells. -/
abbrev mcV (A : Option Addr) (n c : Nat) (fuel : Int) (made : Int) (shared depth deepest : Int) (vt vo vc vp vr : Value) (bm : Nat) : Array Value :=
  #[.slice A n c, .int .i64 fuel, .int .i64 made, .int .i64 shared, .int .i64 depth, .int .i64 deepest, vt, vo, vc, vp, vr, .map (some bm), .int .i64 0, .int .i64 0, .slice none 0 0, .int .i64 0]
/-- The values that a machine's cells hold. -/
structure MVs where
  A1 : Option Addr
  c1 : Nat
  A2 : Option Addr
  c2 : Nat
  A3 : Option Addr
  c3 : Nat
  A4 : Option Addr
  c4 : Nat
  A5 : Option Addr
  c5 : Nat
  bm : Nat
  ps : List Pv
def MachC (gm : Nat) (A : Option Addr) (n c : Nat) (fuel : Int) (m : Ma) (x : MVs) (F : HP) : HP :=
  pts gm (.cells (mcV A n c fuel m.made m.shared m.depth m.deepest (.slice x.A1 m.trace.length x.c1) (.slice x.A2 m.owners.length x.c2) (.slice x.A3 m.calls.length x.c3) (.slice x.A4 x.ps.length x.c4) (.slice x.A5 m.recs.length x.c5) x.bm) 98 (0, 0)) *
  (Row 75 3 (.slice x.A1 m.trace.length x.c1) m.trace.length (cEvs m.trace) * (Row 3 1 (.slice x.A2 m.owners.length x.c2) m.owners.length (ints m.owners) * (Row 92 6 (.slice x.A3 m.calls.length x.c3) m.calls.length (cCis m.calls) *
  (Row 78 9 (.slice x.A4 x.ps.length x.c4) x.ps.length (cPvs x.ps) * (stars (x.ps.map unH) * (Row 90 3 (.slice x.A5 m.recs.length x.c5) m.recs.length (cRcs m.recs) * (MapH x.bm m.made * F)))))))
/-- The machine in memory. -/
def Mach (gm : Nat) (A : Option Addr) (n c : Nat) (fuel : Int) (m : Ma) : HP := exH fun x : {x : MVs // x.ps.map (·.p) = m.panics} => MachC gm A n c fuel m x.1 emp
theorem emp_star {w : World} {S : HP} (H : SepI w S) : SepI w (emp * S) := H.emp
theorem MachC.split (gm : Nat) (A : Option Addr) (n c : Nat) (fuel : Int) (m : Ma) (x : MVs) (F G : HP) : MachC gm A n c fuel m x F * G = MachC gm A n c fuel m x (F * G) := by
  unfold MachC
  simp only [star_assoc]
theorem Mach.open {w : World} {gm : Nat} {A : Option Addr} {n c : Nat} {fuel : Int} {m : Ma} {F : HP} (H : SepI w (Mach gm A n c fuel m * F)) : ∃ x : MVs, x.ps.map (·.p) = m.panics ∧ SepI w (MachC gm A n c fuel m x F) := by
  obtain ⟨⟨x, hx⟩, H1⟩ := SepI.exO H
  refine ⟨x, hx, ?_⟩
  have H1 : SepI w (MachC gm A n c fuel m x emp * F) := H1
  rw [MachC.split] at H1
  have e : MachC gm A n c fuel m x (emp * F) = emp * MachC gm A n c fuel m x F := by
    unfold MachC
    ac_rfl
  rw [e] at H1
  exact H1.right
theorem Mach.shut {w : World} {gm : Nat} {A : Option Addr} {n c : Nat} {fuel : Int} {m : Ma} {F : HP} (x : MVs) (hx : x.ps.map (·.p) = m.panics) (H : SepI w (MachC gm A n c fuel m x F)) : SepI w (Mach gm A n c fuel m * F) := by
  refine SepI.exS (⟨x, hx⟩ : {x : MVs // x.ps.map (·.p) = m.panics}) ?_
  show SepI w (MachC gm A n c fuel m x emp * F)
  rw [MachC.split]
  have e : MachC gm A n c fuel m x (emp * F) = emp * MachC gm A n c fuel m x F := by
    unfold MachC
    ac_rfl
  rw [e]
  exact H.emp
/-- A call's own cells. -/
abbrev frC (id fn : Int) (r : R4s) (v pv : Value) (df ct lv : Bool) (en pa : Int) : Array Value :=
  #[.int .i64 id, .int .i64 fn, .int .i64 r.a, .int .i64 r.b, .int .i64 r.c, .int .i64 r.d, v, pv, .bool df, .bool ct, .bool lv, .int .i64 en, .int .i64 pa]
structure FVs where
  r : R4s
  A : Option Addr
  c : Nat
def FrC (gf : Nat) (pv : Value) (f : Fr) (x : FVs) (F : HP) : HP :=
  pts gf (.cells (frC f.id f.fn x.r (.slice x.A f.runs.length x.c) pv f.df f.ct f.lv f.en f.pa) 154 (0, 0)) * (Row 191 2 (.slice x.A f.runs.length x.c) f.runs.length (cPr f.runs) * F)
/-- A call in memory; pv: the address of the call that runs it. -/
def FrH (gf : Nat) (pv : Value) (f : Fr) : HP := exH fun x : {x : FVs // f.regs = x.r.l} => FrC gf pv f x.1 emp
theorem FrH.open {w : World} {gf : Nat} {pv : Value} {f : Fr} {F : HP} (H : SepI w (FrH gf pv f * F)) : ∃ x : FVs, f.regs = x.r.l ∧ SepI w (FrC gf pv f x F) := by
  obtain ⟨⟨x, hx⟩, H1⟩ := SepI.exO H
  refine ⟨x, hx, ?_⟩
  have H1 : SepI w (FrC gf pv f x emp * F) := H1
  have e : FrC gf pv f x emp * F = emp * FrC gf pv f x F := by
    unfold FrC
    ac_rfl
  rw [e] at H1
  exact H1.right
theorem FrH.shut {w : World} {gf : Nat} {pv : Value} {f : Fr} {F : HP} (x : FVs) (hx : f.regs = x.r.l) (H : SepI w (FrC gf pv f x F)) : SepI w (FrH gf pv f * F) := by
  refine SepI.exS (⟨x, hx⟩ : {x : FVs // f.regs = x.r.l}) ?_
  show SepI w (FrC gf pv f x emp * F)
  have e : FrC gf pv f x emp * F = emp * FrC gf pv f x F := by
    unfold FrC
    ac_rfl
  rw [e]
  exact H.emp
end Go.Proofs.Ytobikkdnalnllaa
namespace Go.Proofs.Ytobikkdnalnllaa
open Go.RowKit SL
attribute [local go_sem] cell_blk frozen_blk lt_blk cell_at frozen_row lt_row
set_option linter.unusedVariables false
set_option linter.unusedSimpArgs false
/-- What a piece of the machine leaves that hands back nothing. -/
def DoneM (S : HP) (gm : Nat) (A : Option Addr) (n c : Nat) (fuel : Int) (m : Ma) (w : World) (e : Ending) (w' : World) : Prop := e = .returned (.tuple #[]) ∧ Post w (Mach gm A n c fuel m * S) w'
set_option maxRecDepth 100000 in
set_option maxHeartbeats 4000000 in
theorem impl_tell (S : HP) (w : World) (gm : Nat) (A : Option Addr) (n c : Nat) (fuel : Int) (m : Ma) [H : SepI w (Mach gm A n c fuel m * S)] (ht : m.trace.length ≤ 1048576) (ho : m.owners.length ≤ 1048576) (k f v : Int) (o : Nat) :
    Calls Try.prog 148 #[.pointer (some ⟨gm, 0, none⟩), .int .i64 k, .int .i64 f, .int .i64 v, .int .i64 (o : Int)] w (DoneM S gm A n c fuel (tellM m k f v o) w) := by
  obtain ⟨⟨A1, c1, A2, c2, A3, c3, A4, c4, A5, c5, bm, ps⟩, hps, H1⟩ := Mach.open H
  obtain ⟨mk, sh, dep, deep, t, ow, cl, pn, rs⟩ := m
  simp only at hps
  subst hps
  unfold MachC at H1
  simp only at H1
  clear H
  simp only at ht ho
  obtain ⟨t', HT⟩ : ∃ q : List Ev, Hd (q = t ++ [(⟨k, f, v⟩ : Ev)]) := ⟨_, ⟨rfl⟩⟩
  obtain ⟨ow', HO⟩ : ∃ q : List Int, Hd (q = ow ++ [(o : Int)]) := ⟨_, ⟨rfl⟩⟩
  have HT1 : Hd (t.length + 1 = t'.length) := ⟨by rw [HT.out, List.length_append]; rfl⟩
  have HT2 : Hd (cEvs t ++ #[Value.int .i64 k, .int .i64 f, .int .i64 v].toList = cEvs t') := ⟨by rw [HT.out, cEvs_snoc]⟩
  have HO1 : Hd (ow.length + 1 = ow'.length) := ⟨by rw [HO.out, List.length_append]; rfl⟩
  have HO2 : Hd (ints ow ++ #[Value.int .i64 (o : Int)].toList = ints ow') := ⟨by rw [HO.out, ints_append]; rfl⟩
  have HM : Hd (tellM (⟨mk, sh, dep, deep, t, ow, cl, ps.map (·.p), rs⟩ : Ma) k f v o = (⟨mk, sh, dep, deep, t', ow', cl, ps.map (·.p), rs⟩ : Ma)) := ⟨by rw [HT.out, HO.out]; rfl⟩
  rw [HM.out]
  clear HM HT HO
  go_enter Try.func148, Try.ntmps148
  refine wp_region_W 22 21 (by kernel_rfl) (by kernel_rfl) (fun w' => w'.cell? ⟨gm, 6, none⟩ = some (.slice A1 t.length c1) ∧ w'.cell? ⟨gm, 7, none⟩ = some (.slice A2 ow.length c2)) ⟨cb, cb⟩ (fun hHeld => ?_)
  refine tkp 0 hHeld ?_
  refine tkp 1 hHeld ?_
  refine tkp 2 hHeld ?_
  refine tkp 3 hHeld ?_
  refine tkp 4 hHeld ?_
  refine tkl 5 hHeld ?_
  refine tkp 6 hHeld ?_
  refine tkp 7 hHeld ?_
  refine tkp 8 hHeld ?_
  refine tkp 9 hHeld ?_
  refine tkp 12 hHeld ?_
  refine tkp 13 hHeld ?_
  refine tkp 14 hHeld ?_
  refine tkl 15 hHeld ?_
  refine tkp 16 hHeld ?_
  refine wpAnyW_two false false (i := 10) (j := 17) (by kernel_rfl) rfl rfl (by kernel_rfl) (by kernel_rfl) (by rfl) (by rfl) (fun KK hKK => ?_) (fun KK hKK => ?_)
  · refine st_list rfl ?_
    go_wp2
    refine ⟨rfl, ?_⟩
    refine hKK.out _ _ (.inr ⟨cb, cb⟩) (fun hHeld => ?_)
    clear hKK KK
    try simp only [Act.put, List.setIfInBounds_toArray, List.set_cons_zero, List.set_cons_succ]
    refine wpAnyW_two false false (i := 11) (j := 17) (by kernel_rfl) rfl rfl (by kernel_rfl) (by kernel_rfl) (by rfl) (by rfl) (fun KK hKK => ?_) (fun KK hKK => ?_)
    · refine st_list rfl (ev_append (v := .slice A1 t.length c1) rfl _ _ 58 rfl rfl 24 _ Try.underlying58 info_ev rfl (by decide) (by decide) _ 1 1 rfl rfl (by simp [Value.oneCell']) (by omega) ?_)
      intro v4 w4 HS4 HE4
      replace HS4 := Row.as HS4 HT1.out HT2.out
      obtain ⟨A6, c6, rfl, hc6, hc6'⟩ := Row.form HS4
      clear hc6 hc6'
      refine ⟨rfl, ?_⟩
      refine hKK.out _ _ (.inr ⟨cb, cb⟩) (fun hHeld => ?_)
      clear hKK KK
      try simp only [Act.put, List.setIfInBounds_toArray, List.set_cons_zero, List.set_cons_succ]
      refine wpAnyW_one false (i := 17) (by kernel_rfl) rfl (by kernel_rfl) (by rfl) (fun KK hKK => ?_)
      refine st_list rfl ?_
      go_wp2
      refine ⟨rfl, ?_⟩
      refine hKK.out _ _ (.inr ⟨cb, cb⟩) (fun hHeld => ?_)
      clear hKK KK
      try simp only [Act.put, List.setIfInBounds_toArray, List.set_cons_zero, List.set_cons_succ]
      refine wpAnyW_one false (i := 18) (by kernel_rfl) rfl (by kernel_rfl) (by rfl) (fun KK hKK => ?_)
      refine st_list rfl (ev_append (v := .slice A2 ow.length c2) rfl _ _ 26 rfl rfl 8 _ Try.underlying26 info_int rfl (by decide) (by decide) _ 1 1 rfl rfl (by simp [Value.oneCell']) (by omega) ?_)
      intro v5 w5 HS5 HE5
      replace HS5 := Row.as HS5 HO1.out HO2.out
      obtain ⟨A7, c7, rfl, hc7, hc7'⟩ := Row.form HS5
      clear hc7 hc7'
      refine ⟨rfl, ?_⟩
      refine hKK.out _ _ (.inr ⟨cb, cb⟩) (fun hHeld => ?_)
      clear hKK KK
      try simp only [Act.put, List.setIfInBounds_toArray, List.set_cons_zero, List.set_cons_succ]
      refine tkp 19 hHeld ?_
      refine tkp 20 hHeld ?_
      refine wpAnyW_one true (i := 21) (by kernel_rfl) rfl (by kernel_rfl) (by rfl) (fun KK hKK => ?_)
      refine st_list rfl ?_
      go_wp2
      refine ⟨rfl, ?_⟩
      refine hKK.out _ _ (.inl rfl) (fun hHeld => ?_)
      clear hKK KK
      try simp only [Act.put, List.setIfInBounds_toArray, List.set_cons_zero, List.set_cons_succ]
      refine wpAnyW_done (by kernel_rfl) ?_
      go_wp2
      go_end0
      refine ⟨rfl, Post.mk' (Mach.shut ⟨A6, c6, A7, c7, A3, c3, A4, c4, A5, c5, bm, ps⟩ rfl (SepI.cast (Ent.sep (S := _) (T := pts gm (.cells ((#[Value.slice A n c, .int .i64 fuel, .int .i64 (mk : Int), .int .i64 sh, .int .i64 (dep : Int), .int .i64 (deep : Int), .slice A1 t.length c1, .slice A2 ow.length c2, .slice A3 cl.length c3, .slice A4 ps.length c4, .slice A5 rs.length c5, .map (some bm), .int .i64 0, .int .i64 0, .slice none 0 0, .int .i64 0].setIfInBounds 6 (.slice A6 t'.length c6)).setIfInBounds 7 (.slice A7 ow'.length c7)) 98 (0, 0)) * (Row 75 3 (.slice A6 t'.length c6) t'.length (cEvs t') * (Row 3 1 (.slice A7 ow'.length c7) ow'.length (ints ow') * (Row 92 6 (.slice A3 cl.length c3) cl.length (cCis cl) * (Row 78 9 (.slice A4 ps.length c4) ps.length (cPvs ps) * (stars (ps.map unH) * (Row 90 3 (.slice A5 rs.length c5) rs.length (cRcs rs) * (MapH bm mk * (S))))))))) inferInstance inferInstance) (by rfl))) inferInstance⟩
    · refine st_list rfl ?_
      go_wp2
      refine ⟨rfl, ?_⟩
      refine hKK.out _ _ (.inr ⟨cb, cb⟩) (fun hHeld => ?_)
      clear hKK KK
      try simp only [Act.put, List.setIfInBounds_toArray, List.set_cons_zero, List.set_cons_succ]
      refine wpAnyW_one false (i := 11) (by kernel_rfl) rfl (by kernel_rfl) (by rfl) (fun KK hKK => ?_)
      refine st_list rfl (ev_append (v := .slice A1 t.length c1) rfl _ _ 58 rfl rfl 24 _ Try.underlying58 info_ev rfl (by decide) (by decide) _ 1 1 rfl rfl (by simp [Value.oneCell']) (by omega) ?_)
      intro v4 w4 HS4 HE4
      replace HS4 := Row.as HS4 HT1.out HT2.out
      obtain ⟨A6, c6, rfl, hc6, hc6'⟩ := Row.form HS4
      clear hc6 hc6'
      refine ⟨rfl, ?_⟩
      refine hKK.out _ _ (.inr ⟨cb, cb⟩) (fun hHeld => ?_)
      clear hKK KK
      try simp only [Act.put, List.setIfInBounds_toArray, List.set_cons_zero, List.set_cons_succ]
      refine wpAnyW_one false (i := 18) (by kernel_rfl) rfl (by kernel_rfl) (by rfl) (fun KK hKK => ?_)
      refine st_list rfl (ev_append (v := .slice A2 ow.length c2) rfl _ _ 26 rfl rfl 8 _ Try.underlying26 info_int rfl (by decide) (by decide) _ 1 1 rfl rfl (by simp [Value.oneCell']) (by omega) ?_)
      intro v5 w5 HS5 HE5
      replace HS5 := Row.as HS5 HO1.out HO2.out
      obtain ⟨A7, c7, rfl, hc7, hc7'⟩ := Row.form HS5
      clear hc7 hc7'
      refine ⟨rfl, ?_⟩
      refine hKK.out _ _ (.inr ⟨cb, cb⟩) (fun hHeld => ?_)
      clear hKK KK
      try simp only [Act.put, List.setIfInBounds_toArray, List.set_cons_zero, List.set_cons_succ]
      refine tkp 19 hHeld ?_
      refine tkp 20 hHeld ?_
      refine wpAnyW_one true (i := 21) (by kernel_rfl) rfl (by kernel_rfl) (by rfl) (fun KK hKK => ?_)
      refine st_list rfl ?_
      go_wp2
      refine ⟨rfl, ?_⟩
      refine hKK.out _ _ (.inl rfl) (fun hHeld => ?_)
      clear hKK KK
      try simp only [Act.put, List.setIfInBounds_toArray, List.set_cons_zero, List.set_cons_succ]
      refine wpAnyW_done (by kernel_rfl) ?_
      go_wp2
      go_end0
      refine ⟨rfl, Post.mk' (Mach.shut ⟨A6, c6, A7, c7, A3, c3, A4, c4, A5, c5, bm, ps⟩ rfl (SepI.cast (Ent.sep (S := _) (T := pts gm (.cells ((#[Value.slice A n c, .int .i64 fuel, .int .i64 (mk : Int), .int .i64 sh, .int .i64 (dep : Int), .int .i64 (deep : Int), .slice A1 t.length c1, .slice A2 ow.length c2, .slice A3 cl.length c3, .slice A4 ps.length c4, .slice A5 rs.length c5, .map (some bm), .int .i64 0, .int .i64 0, .slice none 0 0, .int .i64 0].setIfInBounds 6 (.slice A6 t'.length c6)).setIfInBounds 7 (.slice A7 ow'.length c7)) 98 (0, 0)) * (Row 75 3 (.slice A6 t'.length c6) t'.length (cEvs t') * (Row 3 1 (.slice A7 ow'.length c7) ow'.length (ints ow') * (Row 92 6 (.slice A3 cl.length c3) cl.length (cCis cl) * (Row 78 9 (.slice A4 ps.length c4) ps.length (cPvs ps) * (stars (ps.map unH) * (Row 90 3 (.slice A5 rs.length c5) rs.length (cRcs rs) * (MapH bm mk * (S))))))))) inferInstance inferInstance) (by rfl))) inferInstance⟩
  · refine st_list rfl ?_
    go_wp2
    refine ⟨rfl, ?_⟩
    refine hKK.out _ _ (.inr ⟨cb, cb⟩) (fun hHeld => ?_)
    clear hKK KK
    try simp only [Act.put, List.setIfInBounds_toArray, List.set_cons_zero, List.set_cons_succ]
    refine wpAnyW_one false (i := 10) (by kernel_rfl) rfl (by kernel_rfl) (by rfl) (fun KK hKK => ?_)
    refine st_list rfl ?_
    go_wp2
    refine ⟨rfl, ?_⟩
    refine hKK.out _ _ (.inr ⟨cb, cb⟩) (fun hHeld => ?_)
    clear hKK KK
    try simp only [Act.put, List.setIfInBounds_toArray, List.set_cons_zero, List.set_cons_succ]
    refine wpAnyW_one false (i := 11) (by kernel_rfl) rfl (by kernel_rfl) (by rfl) (fun KK hKK => ?_)
    refine st_list rfl (ev_append (v := .slice A1 t.length c1) rfl _ _ 58 rfl rfl 24 _ Try.underlying58 info_ev rfl (by decide) (by decide) _ 1 1 rfl rfl (by simp [Value.oneCell']) (by omega) ?_)
    intro v4 w4 HS4 HE4
    replace HS4 := Row.as HS4 HT1.out HT2.out
    obtain ⟨A6, c6, rfl, hc6, hc6'⟩ := Row.form HS4
    clear hc6 hc6'
    refine ⟨rfl, ?_⟩
    refine hKK.out _ _ (.inr ⟨cb, cb⟩) (fun hHeld => ?_)
    clear hKK KK
    try simp only [Act.put, List.setIfInBounds_toArray, List.set_cons_zero, List.set_cons_succ]
    refine wpAnyW_one false (i := 18) (by kernel_rfl) rfl (by kernel_rfl) (by rfl) (fun KK hKK => ?_)
    refine st_list rfl (ev_append (v := .slice A2 ow.length c2) rfl _ _ 26 rfl rfl 8 _ Try.underlying26 info_int rfl (by decide) (by decide) _ 1 1 rfl rfl (by simp [Value.oneCell']) (by omega) ?_)
    intro v5 w5 HS5 HE5
    replace HS5 := Row.as HS5 HO1.out HO2.out
    obtain ⟨A7, c7, rfl, hc7, hc7'⟩ := Row.form HS5
    clear hc7 hc7'
    refine ⟨rfl, ?_⟩
    refine hKK.out _ _ (.inr ⟨cb, cb⟩) (fun hHeld => ?_)
    clear hKK KK
    try simp only [Act.put, List.setIfInBounds_toArray, List.set_cons_zero, List.set_cons_succ]
    refine tkp 19 hHeld ?_
    refine tkp 20 hHeld ?_
    refine wpAnyW_one true (i := 21) (by kernel_rfl) rfl (by kernel_rfl) (by rfl) (fun KK hKK => ?_)
    refine st_list rfl ?_
    go_wp2
    refine ⟨rfl, ?_⟩
    refine hKK.out _ _ (.inl rfl) (fun hHeld => ?_)
    clear hKK KK
    try simp only [Act.put, List.setIfInBounds_toArray, List.set_cons_zero, List.set_cons_succ]
    refine wpAnyW_done (by kernel_rfl) ?_
    go_wp2
    go_end0
    refine ⟨rfl, Post.mk' (Mach.shut ⟨A6, c6, A7, c7, A3, c3, A4, c4, A5, c5, bm, ps⟩ rfl (SepI.cast (Ent.sep (S := _) (T := pts gm (.cells ((#[Value.slice A n c, .int .i64 fuel, .int .i64 (mk : Int), .int .i64 sh, .int .i64 (dep : Int), .int .i64 (deep : Int), .slice A1 t.length c1, .slice A2 ow.length c2, .slice A3 cl.length c3, .slice A4 ps.length c4, .slice A5 rs.length c5, .map (some bm), .int .i64 0, .int .i64 0, .slice none 0 0, .int .i64 0].setIfInBounds 6 (.slice A6 t'.length c6)).setIfInBounds 7 (.slice A7 ow'.length c7)) 98 (0, 0)) * (Row 75 3 (.slice A6 t'.length c6) t'.length (cEvs t') * (Row 3 1 (.slice A7 ow'.length c7) ow'.length (ints ow') * (Row 92 6 (.slice A3 cl.length c3) cl.length (cCis cl) * (Row 78 9 (.slice A4 ps.length c4) ps.length (cPvs ps) * (stars (ps.map unH) * (Row 90 3 (.slice A5 rs.length c5) rs.length (cRcs rs) * (MapH bm mk * (S))))))))) inferInstance inferInstance) (by rfl))) inferInstance⟩
end Go.Proofs.Ytobikkdnalnllaa
namespace Go.Proofs.Ytobikkdnalnllaa
open Go.RowKit SL
attribute [local go_sem] cell_blk frozen_blk lt_blk cell_at frozen_row lt_row
set_option linter.unusedVariables false
set_option linter.unusedSimpArgs false
theorem MF.open {w : World} {gm gf : Nat} {A : Option Addr} {n c : Nat} {fuel : Int} {m : Ma} {pv : Value} {f : Fr} {F : HP} (H : SepI w (Mach gm A n c fuel m * (FrH gf pv f * F))) :
    ∃ (x : MVs) (y : FVs), x.ps.map (·.p) = m.panics ∧ f.regs = y.r.l ∧ SepI w (FrC gf pv f y (MachC gm A n c fuel m x F)) := by
  obtain ⟨x, hx, H1⟩ := Mach.open H
  have H2 : SepI w (FrH gf pv f * MachC gm A n c fuel m x F) := SepI.cast H1 (by unfold MachC; ac_rfl)
  obtain ⟨y, hy, H3⟩ := FrH.open H2
  exact ⟨x, y, hx, hy, H3⟩
theorem MF.shut {w : World} {gm gf : Nat} {A : Option Addr} {n c : Nat} {fuel : Int} {m : Ma} {pv : Value} {f : Fr} {F : HP} (x : MVs) (y : FVs) (hx : x.ps.map (·.p) = m.panics) (hy : f.regs = y.r.l) (H : SepI w (FrC gf pv f y (MachC gm A n c fuel m x F))) :
    SepI w (Mach gm A n c fuel m * (FrH gf pv f * F)) := by
  have H2 := FrH.shut y hy H
  exact Mach.shut x hx (SepI.cast H2 (by unfold MachC; ac_rfl))
theorem frC_get {id fn : Int} {r : R4s} {v pv : Value} {df ct lv : Bool} {en pa : Int} {k : Nat} (hk : k < 4) : (frC id fn r v pv df ct lv en pa)[2 + k]? = some (.int .i64 (regAt r.l k)) := by
  match k, hk with
  | 0, _ => rfl
  | 1, _ => rfl
  | 2, _ => rfl
  | 3, _ => rfl
theorem frC_set {id fn : Int} {r : R4s} {v pv : Value} {df ct lv : Bool} {en pa : Int} {k : Nat} (hk : k < 4) {x : Int} : (frC id fn r v pv df ct lv en pa).setIfInBounds (2 + k) (.int .i64 x) = frC id fn (r.set k x) v pv df ct lv en pa := by
  match k, hk with
  | 0, _ => rfl
  | 1, _ => rfl
  | 2, _ => rfl
  | 3, _ => rfl
/-- What a step leaves that looks at its own call alone. -/
def StepK (S : HP) (gm gf : Nat) (A : Option Addr) (n c : Nat) (fuel : Int) (pv : Value) (m : Ma) (f : Fr) (b : Bool) (w : World) (e : Ending) (w' : World) : Prop := e = .returned (.bool b) ∧ Post w (Mach gm A n c fuel m * (FrH gf pv f * S)) w'
set_option maxRecDepth 100000 in
set_option maxHeartbeats 4000000 in
theorem impl_step1 (S : HP) (w : World) (gm : Nat) (A : Option Addr) (n c : Nat) (fuel : Int) (m : Ma) (gf : Nat) (pv : Value) (f : Fr) [H : SepI w (Mach gm A n c fuel m * (FrH gf pv f * S))] (a b : Int) (ka : Nat) (hka : ka < 4) :
    Calls Try.prog 159 #[.pointer (some ⟨gm, 0, none⟩), .pointer (some ⟨gf, 0, none⟩), .agg #[.int .i64 1, .int .i64 (ka : Int), .int .i64 b]] w (StepK S gm gf A n c fuel pv m { f with regs := regSet f.regs ka b } false w) := by
  obtain ⟨⟨A1, c1, A2, c2, A3, c3, A4, c4, A5, c5, bm, ps⟩, ⟨r, A0, c0⟩, hps, hr, H1⟩ := MF.open H
  obtain ⟨mk, sh, dep, deep, t, ow, cl, pn, rs⟩ := m
  obtain ⟨id, fn, rg, rn, df, ct, lv, en, pa⟩ := f
  simp only at hps hr
  subst hps hr
  unfold FrC MachC at H1
  simp only at H1
  clear H
  have haI : (ka : Int) < 4 := by omega
  have hget : #[Value.int .i64 (id : Int), .int .i64 fn, .int .i64 r.a, .int .i64 r.b, .int .i64 r.c, .int .i64 r.d, .slice A0 rn.length c0, pv, .bool df, .bool ct, .bool lv, .int .i64 en, .int .i64 pa][2 + ka]? = some (.int .i64 (regAt r.l ka)) := frC_get (by omega)
  go_enter Try.func159, Try.ntmps159
  go_wp2
  refine wp_region_W 6 8 (by kernel_rfl) (by kernel_rfl) (fun w' => w'.cell? ⟨w.heap.size, 2, none⟩ = some (.int .i64 b)) (cb) (fun hHeld => ?_)
  refine tkp 0 hHeld ?_
  refine tkp 1 hHeld ?_
  refine tkp 2 hHeld ?_
  refine tkl 3 hHeld ?_
  refine tkp 4 hHeld ?_
  refine tkp 5 hHeld ?_
  refine wpAnyW_done (by kernel_rfl) ?_
  go_wp2
  go_ret
  refine ⟨rfl, Post.mk' (MF.shut ⟨A1, c1, A2, c2, A3, c3, A4, c4, A5, c5, bm, ps⟩ ⟨r.set ka b, A0, c0⟩ rfl (R4s.set_l r hka b) (SepI.cast (Ent.sep (S := _) (T := pts gf (.cells (#[Value.int .i64 (id : Int), .int .i64 fn, .int .i64 r.a, .int .i64 r.b, .int .i64 r.c, .int .i64 r.d, .slice A0 rn.length c0, pv, .bool df, .bool ct, .bool lv, .int .i64 en, .int .i64 pa].setIfInBounds (2 + ka) (.int .i64 b)) 154 (0, 0)) * (Row 191 2 (.slice A0 rn.length c0) rn.length (cPr rn) * (pts gm (.cells #[Value.slice A n c, .int .i64 fuel, .int .i64 (mk : Int), .int .i64 sh, .int .i64 (dep : Int), .int .i64 (deep : Int), .slice A1 t.length c1, .slice A2 ow.length c2, .slice A3 cl.length c3, .slice A4 ps.length c4, .slice A5 rs.length c5, .map (some bm), .int .i64 0, .int .i64 0, .slice none 0 0, .int .i64 0] 98 (0, 0)) * (Row 75 3 (.slice A1 t.length c1) t.length (cEvs t) * (Row 3 1 (.slice A2 ow.length c2) ow.length (ints ow) * (Row 92 6 (.slice A3 cl.length c3) cl.length (cCis cl) * (Row 78 9 (.slice A4 ps.length c4) ps.length (cPvs ps) * (stars (ps.map unH) * (Row 90 3 (.slice A5 rs.length c5) rs.length (cRcs rs) * (MapH bm mk * (S))))))))))) inferInstance inferInstance) (by rw [frC_set hka]; rfl))) inferInstance⟩
set_option maxRecDepth 100000 in
set_option maxHeartbeats 4000000 in
theorem impl_step8 (S : HP) (w : World) (gm : Nat) (A : Option Addr) (n c : Nat) (fuel : Int) (m : Ma) (gf : Nat) (pv : Value) (f : Fr) [H : SepI w (Mach gm A n c fuel m * (FrH gf pv f * S))] (a b : Int) (ka : Nat) (hka : ka < 4) :
    Calls Try.prog 159 #[.pointer (some ⟨gm, 0, none⟩), .pointer (some ⟨gf, 0, none⟩), .agg #[.int .i64 8, .int .i64 (ka : Int), .int .i64 b]] w (StepK S gm gf A n c fuel pv m { f with regs := regSet f.regs 1 (regAt f.regs ka) } true w) := by
  obtain ⟨⟨A1, c1, A2, c2, A3, c3, A4, c4, A5, c5, bm, ps⟩, ⟨r, A0, c0⟩, hps, hr, H1⟩ := MF.open H
  obtain ⟨mk, sh, dep, deep, t, ow, cl, pn, rs⟩ := m
  obtain ⟨id, fn, rg, rn, df, ct, lv, en, pa⟩ := f
  simp only at hps hr
  subst hps hr
  unfold FrC MachC at H1
  simp only at H1
  clear H
  have haI : (ka : Int) < 4 := by omega
  have hget : #[Value.int .i64 (id : Int), .int .i64 fn, .int .i64 r.a, .int .i64 r.b, .int .i64 r.c, .int .i64 r.d, .slice A0 rn.length c0, pv, .bool df, .bool ct, .bool lv, .int .i64 en, .int .i64 pa][2 + ka]? = some (.int .i64 (regAt r.l ka)) := frC_get (by omega)
  go_enter Try.func159, Try.ntmps159
  go_wp2
  refine wp_region_W 9 11 (by kernel_rfl) (by kernel_rfl) (fun w' => w'.cell? ⟨gf, 2 + ka, none⟩ = some (.int .i64 (regAt r.l ka))) ((cell_blk _ _ _ _ _ _ _).trans hget) (fun hHeld => ?_)
  refine tkp 0 hHeld ?_
  refine tkp 1 hHeld ?_
  refine tkp 2 hHeld ?_
  refine tkp 3 hHeld ?_
  refine tkp 4 hHeld ?_
  refine tkp 5 hHeld ?_
  refine tkl 6 hHeld ?_
  refine tkp 7 hHeld ?_
  refine tkp 8 hHeld ?_
  refine wpAnyW_done (by kernel_rfl) ?_
  go_wp2
  go_ret
  refine ⟨rfl, Post.mk' (MF.shut ⟨A1, c1, A2, c2, A3, c3, A4, c4, A5, c5, bm, ps⟩ ⟨r.set 1 (regAt r.l ka), A0, c0⟩ rfl (R4s.set_l r (k := 1) (by decide) _) (SepI.cast (Ent.sep (S := _) (T := pts gf (.cells (#[Value.int .i64 (id : Int), .int .i64 fn, .int .i64 r.a, .int .i64 r.b, .int .i64 r.c, .int .i64 r.d, .slice A0 rn.length c0, pv, .bool df, .bool ct, .bool lv, .int .i64 en, .int .i64 pa].setIfInBounds 3 (.int .i64 (regAt r.l ka))) 154 (0, 0)) * (Row 191 2 (.slice A0 rn.length c0) rn.length (cPr rn) * (pts gm (.cells #[Value.slice A n c, .int .i64 fuel, .int .i64 (mk : Int), .int .i64 sh, .int .i64 (dep : Int), .int .i64 (deep : Int), .slice A1 t.length c1, .slice A2 ow.length c2, .slice A3 cl.length c3, .slice A4 ps.length c4, .slice A5 rs.length c5, .map (some bm), .int .i64 0, .int .i64 0, .slice none 0 0, .int .i64 0] 98 (0, 0)) * (Row 75 3 (.slice A1 t.length c1) t.length (cEvs t) * (Row 3 1 (.slice A2 ow.length c2) ow.length (ints ow) * (Row 92 6 (.slice A3 cl.length c3) cl.length (cCis cl) * (Row 78 9 (.slice A4 ps.length c4) ps.length (cPvs ps) * (stars (ps.map unH) * (Row 90 3 (.slice A5 rs.length c5) rs.length (cRcs rs) * (MapH bm mk * (S))))))))))) inferInstance inferInstance) (by rfl))) inferInstance⟩
set_option maxRecDepth 100000 in
set_option maxHeartbeats 4000000 in
theorem impl_step10 (S : HP) (w : World) (gm : Nat) (A : Option Addr) (n c : Nat) (fuel : Int) (m : Ma) (gf : Nat) (pv : Value) (f : Fr) [H : SepI w (Mach gm A n c fuel m * (FrH gf pv f * S))] (a b : Int) :
    Calls Try.prog 159 #[.pointer (some ⟨gm, 0, none⟩), .pointer (some ⟨gf, 0, none⟩), .agg #[.int .i64 10, .int .i64 a, .int .i64 b]] w (StepK S gm gf A n c fuel pv m { f with lv := true, en := 3 } true w) := by
  obtain ⟨⟨A1, c1, A2, c2, A3, c3, A4, c4, A5, c5, bm, ps⟩, ⟨r, A0, c0⟩, hps, hr, H1⟩ := MF.open H
  obtain ⟨mk, sh, dep, deep, t, ow, cl, pn, rs⟩ := m
  obtain ⟨id, fn, rg, rn, df, ct, lv, en, pa⟩ := f
  simp only at hps hr
  subst hps hr
  unfold FrC MachC at H1
  simp only at H1
  clear H
  go_enter Try.func159, Try.ntmps159
  go_wp2
  go_ret
  refine ⟨rfl, Post.mk' (MF.shut ⟨A1, c1, A2, c2, A3, c3, A4, c4, A5, c5, bm, ps⟩ ⟨r, A0, c0⟩ rfl rfl (SepI.cast (Ent.sep (S := _) (T := pts gf (.cells ((#[Value.int .i64 (id : Int), .int .i64 fn, .int .i64 r.a, .int .i64 r.b, .int .i64 r.c, .int .i64 r.d, .slice A0 rn.length c0, pv, .bool df, .bool ct, .bool lv, .int .i64 en, .int .i64 pa].setIfInBounds 10 (.bool true)).setIfInBounds 11 (.int .i64 3)) 154 (0, 0)) * (Row 191 2 (.slice A0 rn.length c0) rn.length (cPr rn) * (pts gm (.cells #[Value.slice A n c, .int .i64 fuel, .int .i64 (mk : Int), .int .i64 sh, .int .i64 (dep : Int), .int .i64 (deep : Int), .slice A1 t.length c1, .slice A2 ow.length c2, .slice A3 cl.length c3, .slice A4 ps.length c4, .slice A5 rs.length c5, .map (some bm), .int .i64 0, .int .i64 0, .slice none 0 0, .int .i64 0] 98 (0, 0)) * (Row 75 3 (.slice A1 t.length c1) t.length (cEvs t) * (Row 3 1 (.slice A2 ow.length c2) ow.length (ints ow) * (Row 92 6 (.slice A3 cl.length c3) cl.length (cCis cl) * (Row 78 9 (.slice A4 ps.length c4) ps.length (cPvs ps) * (stars (ps.map unH) * (Row 90 3 (.slice A5 rs.length c5) rs.length (cRcs rs) * (MapH bm mk * (S))))))))))) inferInstance inferInstance) (by rfl))) inferInstance⟩
set_option maxRecDepth 100000 in
set_option maxHeartbeats 4000000 in
theorem impl_step12 (S : HP) (w : World) (gm : Nat) (A : Option Addr) (n c : Nat) (fuel : Int) (m : Ma) (gf : Nat) (pv : Value) (f : Fr) [H : SepI w (Mach gm A n c fuel m * (FrH gf pv f * S))] (a b : Int) (ka : Nat) (hka : ka < 4) :
    Calls Try.prog 159 #[.pointer (some ⟨gm, 0, none⟩), .pointer (some ⟨gf, 0, none⟩), .agg #[.int .i64 12, .int .i64 (ka : Int), .int .i64 b]] w (StepK S gm gf A n c fuel pv { m with shared := regAt f.regs ka } f false w) := by
  obtain ⟨⟨A1, c1, A2, c2, A3, c3, A4, c4, A5, c5, bm, ps⟩, ⟨r, A0, c0⟩, hps, hr, H1⟩ := MF.open H
  obtain ⟨mk, sh, dep, deep, t, ow, cl, pn, rs⟩ := m
  obtain ⟨id, fn, rg, rn, df, ct, lv, en, pa⟩ := f
  simp only at hps hr
  subst hps hr
  unfold FrC MachC at H1
  simp only at H1
  clear H
  have haI : (ka : Int) < 4 := by omega
  have hget : #[Value.int .i64 (id : Int), .int .i64 fn, .int .i64 r.a, .int .i64 r.b, .int .i64 r.c, .int .i64 r.d, .slice A0 rn.length c0, pv, .bool df, .bool ct, .bool lv, .int .i64 en, .int .i64 pa][2 + ka]? = some (.int .i64 (regAt r.l ka)) := frC_get (by omega)
  go_enter Try.func159, Try.ntmps159
  go_wp2
  go_ret
  refine ⟨rfl, Post.mk' (MF.shut ⟨A1, c1, A2, c2, A3, c3, A4, c4, A5, c5, bm, ps⟩ ⟨r, A0, c0⟩ rfl rfl (SepI.cast (Ent.sep (S := _) (T := pts gf (.cells #[Value.int .i64 (id : Int), .int .i64 fn, .int .i64 r.a, .int .i64 r.b, .int .i64 r.c, .int .i64 r.d, .slice A0 rn.length c0, pv, .bool df, .bool ct, .bool lv, .int .i64 en, .int .i64 pa] 154 (0, 0)) * (Row 191 2 (.slice A0 rn.length c0) rn.length (cPr rn) * (pts gm (.cells (#[Value.slice A n c, .int .i64 fuel, .int .i64 (mk : Int), .int .i64 sh, .int .i64 (dep : Int), .int .i64 (deep : Int), .slice A1 t.length c1, .slice A2 ow.length c2, .slice A3 cl.length c3, .slice A4 ps.length c4, .slice A5 rs.length c5, .map (some bm), .int .i64 0, .int .i64 0, .slice none 0 0, .int .i64 0].setIfInBounds 3 (.int .i64 (regAt r.l ka))) 98 (0, 0)) * (Row 75 3 (.slice A1 t.length c1) t.length (cEvs t) * (Row 3 1 (.slice A2 ow.length c2) ow.length (ints ow) * (Row 92 6 (.slice A3 cl.length c3) cl.length (cCis cl) * (Row 78 9 (.slice A4 ps.length c4) ps.length (cPvs ps) * (stars (ps.map unH) * (Row 90 3 (.slice A5 rs.length c5) rs.length (cRcs rs) * (MapH bm mk * (S))))))))))) inferInstance inferInstance) (by rfl))) inferInstance⟩
set_option maxRecDepth 100000 in
set_option maxHeartbeats 4000000 in
theorem impl_step13 (S : HP) (w : World) (gm : Nat) (A : Option Addr) (n c : Nat) (fuel : Int) (m : Ma) (gf : Nat) (pv : Value) (f : Fr) [H : SepI w (Mach gm A n c fuel m * (FrH gf pv f * S))] (a b : Int) (ka : Nat) (hka : ka < 4) :
    Calls Try.prog 159 #[.pointer (some ⟨gm, 0, none⟩), .pointer (some ⟨gf, 0, none⟩), .agg #[.int .i64 13, .int .i64 (ka : Int), .int .i64 b]] w (StepK S gm gf A n c fuel pv m { f with regs := regSet f.regs ka m.shared } false w) := by
  obtain ⟨⟨A1, c1, A2, c2, A3, c3, A4, c4, A5, c5, bm, ps⟩, ⟨r, A0, c0⟩, hps, hr, H1⟩ := MF.open H
  obtain ⟨mk, sh, dep, deep, t, ow, cl, pn, rs⟩ := m
  obtain ⟨id, fn, rg, rn, df, ct, lv, en, pa⟩ := f
  simp only at hps hr
  subst hps hr
  unfold FrC MachC at H1
  simp only at H1
  clear H
  have haI : (ka : Int) < 4 := by omega
  have hget : #[Value.int .i64 (id : Int), .int .i64 fn, .int .i64 r.a, .int .i64 r.b, .int .i64 r.c, .int .i64 r.d, .slice A0 rn.length c0, pv, .bool df, .bool ct, .bool lv, .int .i64 en, .int .i64 pa][2 + ka]? = some (.int .i64 (regAt r.l ka)) := frC_get (by omega)
  go_enter Try.func159, Try.ntmps159
  go_wp2
  refine wp_region_W 8 10 (by kernel_rfl) (by kernel_rfl) (fun w' => w'.cell? ⟨gm, 3, none⟩ = some (.int .i64 sh)) (cb) (fun hHeld => ?_)
  refine tkp 0 hHeld ?_
  refine tkp 1 hHeld ?_
  refine tkp 2 hHeld ?_
  refine tkp 3 hHeld ?_
  refine tkp 4 hHeld ?_
  refine tkl 5 hHeld ?_
  refine tkp 6 hHeld ?_
  refine tkp 7 hHeld ?_
  refine wpAnyW_done (by kernel_rfl) ?_
  go_wp2
  go_ret
  refine ⟨rfl, Post.mk' (MF.shut ⟨A1, c1, A2, c2, A3, c3, A4, c4, A5, c5, bm, ps⟩ ⟨r.set ka sh, A0, c0⟩ rfl (R4s.set_l r hka sh) (SepI.cast (Ent.sep (S := _) (T := pts gf (.cells (#[Value.int .i64 (id : Int), .int .i64 fn, .int .i64 r.a, .int .i64 r.b, .int .i64 r.c, .int .i64 r.d, .slice A0 rn.length c0, pv, .bool df, .bool ct, .bool lv, .int .i64 en, .int .i64 pa].setIfInBounds (2 + ka) (.int .i64 sh)) 154 (0, 0)) * (Row 191 2 (.slice A0 rn.length c0) rn.length (cPr rn) * (pts gm (.cells #[Value.slice A n c, .int .i64 fuel, .int .i64 (mk : Int), .int .i64 sh, .int .i64 (dep : Int), .int .i64 (deep : Int), .slice A1 t.length c1, .slice A2 ow.length c2, .slice A3 cl.length c3, .slice A4 ps.length c4, .slice A5 rs.length c5, .map (some bm), .int .i64 0, .int .i64 0, .slice none 0 0, .int .i64 0] 98 (0, 0)) * (Row 75 3 (.slice A1 t.length c1) t.length (cEvs t) * (Row 3 1 (.slice A2 ow.length c2) ow.length (ints ow) * (Row 92 6 (.slice A3 cl.length c3) cl.length (cCis cl) * (Row 78 9 (.slice A4 ps.length c4) ps.length (cPvs ps) * (stars (ps.map unH) * (Row 90 3 (.slice A5 rs.length c5) rs.length (cRcs rs) * (MapH bm mk * (S))))))))))) inferInstance inferInstance) (by rw [frC_set hka]; rfl))) inferInstance⟩
end Go.Proofs.Ytobikkdnalnllaa
