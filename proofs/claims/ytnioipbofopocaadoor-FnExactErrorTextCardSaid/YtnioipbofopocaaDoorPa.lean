/- The program argument of a law: its size, its copy. Conditions: lengths within the model's bound. -/
import Derived.Test.YtnioipbofopocaaDoorProg
import Derived.Test.YtnioipbofopocaaDoorSlr
namespace Go.Proofs.YtnioipbofopocaaDoor
open Go.RowKit SL
attribute [local go_sem] cell_blk frozen_blk lt_blk cell_at frozen_row lt_row
set_option linter.unusedVariables false
set_option linter.unusedSimpArgs false

/-- A step, a body, as they lie in memory. -/
structure St where
  k : Int
  a : Int
  b : Int
  deriving DecidableEq
def cSt (s : St) : List Value := [.int .i64 s.k, .int .i64 s.a, .int .i64 s.b]
def cSts (l : List St) : List Value := l.flatMap cSt
structure Bd where
  p : Option Addr
  c : Nat
  l : List St
def cBd (b : Bd) : Value := .slice b.p b.l.length b.c
def cBds (l : List Bd) : List Value := l.map cBd
theorem cSts_len (l : List St) : (cSts l).length = l.length * 3 := flat_len (f := cSt) (fun _ => rfl) l
theorem cBds_len (l : List Bd) : (cBds l).length = l.length := by simp [cBds]
theorem cBds_get {l : List Bd} {k : Nat} {x : Bd} (h : l[k]? = some x) : (cBds l)[k]? = some (.slice x.p x.l.length x.c) := by simp [cBds, h, cBd]
theorem cSts_get {l : List St} {k : Nat} {x : St} (h : l[k]? = some x) : (cSts l)[k * 3]? = some (.int .i64 x.k) ∧ (cSts l)[k * 3 + 1]? = some (.int .i64 x.a) ∧ (cSts l)[k * 3 + 2]? = some (.int .i64 x.b) :=
  ⟨flat_get (f := cSt) (k := 3) (fun _ => rfl) h 0 (by omega), flat_get (f := cSt) (k := 3) (fun _ => rfl) h 1 (by omega), flat_get (f := cSt) (k := 3) (fun _ => rfl) h 2 (by omega)⟩

theorem szStepS (A : Option Addr) (c n : Nat) (left : Int) (w : World) (hn : n ≤ maxLen) (h0 : 0 ≤ left) (h1 : left ≤ 1048576) :
    Calls Tryd.prog 96 #[.slice A n c, .int .i64 left] w fun e w' => e = .returned (.int .i64 (if left < n then -1 else left - n)) ∧ w' = w := by
  unfold maxLen at hn
  by_cases h : left < n
  · rw [if_pos h]
    go_enter Tryd.func96, Tryd.ntmps96
    go_wp2
    go_ret
    exact ⟨rfl, rfl⟩
  · rw [if_neg h]
    go_enter Tryd.func96, Tryd.ntmps96
    go_wp2
    go_ret
    exact ⟨rfl, rfl⟩

/-- What the size's answer tells. -/
def SzOk (left : Int) (bs : List Bd) (r : Int) : Prop := r = -1 ∨ (0 ≤ r ∧ r + bs.length + ((bs.map fun x => x.l.length).sum : Nat) = left)
def SzPost (left : Int) (bs : List Bd) (w : World) (e : Ending) (w' : World) : Prop := ∃ r, e = .returned (.int .i64 r) ∧ SzOk left bs r ∧ w' = w

theorem sum_take_succ {bs : List Bd} {k : Nat} {x : Bd} (h : bs[k]? = some x) : ((bs.take (k + 1)).map fun x => x.l.length).sum = ((bs.take k).map fun x => x.l.length).sum + x.l.length := by
  rw [take_succ_eq h]; simp

set_option maxHeartbeats 1000000 in
theorem szStepSS (S : HP) (w : World) [H : SepI w S] (A : Option Addr) (c : Nat) (bs : List Bd) [r : Rd S A (cBds bs)] (hb : ∀ x ∈ bs, x.l.length ≤ maxLen) (hn : bs.length ≤ maxLen) (left : Int) (h0 : 0 ≤ left) (h1 : left ≤ 1048576) :
    Calls Tryd.prog 67 #[.slice A bs.length c, .int .i64 left] w (SzPost left bs w) := by
  obtain ⟨n, hn'⟩ : ∃ n, n = bs.length := ⟨_, rfl⟩
  have HN := Hd.mk hn'
  have HB := Hd.mk hb
  unfold maxLen at hn
  rw [← hn'] at hn ⊢
  clear hb hn'
  by_cases hl : left < n
  · go_enter Tryd.func67, Tryd.ntmps67
    go_wp2
    go_ret
    exact ⟨_, rfl, .inl rfl, rfl⟩
  · go_enter Tryd.func67, Tryd.ntmps67
    go_wp2
    go_loop [1, 5] (fun l i => ∃ (k : Nat) (q : Int), k ≤ n ∧ i = .int .i64 k ∧ l = .int .i64 q ∧ 0 ≤ q ∧ q ≤ 1048576 ∧ Hd (q + n + ((((bs.take k).map fun x => x.l.length).sum : Nat) : Int) = left)) (fun _ i => n - (intOf i).toNat)
    case atStart => exact ⟨0, _, Nat.zero_le _, rfl, rfl, by omega, by omega, ⟨by simp⟩⟩
    case round =>
      obtain ⟨k, q, hk, rfl, rfl, hq0, hq1, HQ⟩ := hrel
      by_cases hlt : k < n
      · obtain ⟨x, hx⟩ := get_ex (xs := bs) (k := k) (by rw [← HN.out]; exact hlt)
        obtain ⟨b, off, rfl⟩ := r.addr H (j := k) (by rw [cBds_len, ← HN.out]; exact hlt)
        have c1 := r.cell (cBds_get hx)
        have hxm := HB.out x (List.mem_of_getElem? hx)
        have HX := Hd.mk hx
        clear hx
        obtain ⟨m, hm⟩ : ∃ m, m = x.l.length := ⟨_, rfl⟩
        rw [← hm] at c1 hxm
        have HM := Hd.mk hm
        clear hm
        by_cases hqm : q < m
        · go_wp2_with (go_at_call 96; refine (szStepS _ _ _ _ _ hxm hq0 hq1).mono ?_; rintro e w' ⟨rfl, rfl⟩; simp only [if_pos hqm])
          go_ret
          exact ⟨_, rfl, .inl rfl, rfl⟩
        · go_wp2_with (go_at_call 96; refine (szStepS _ _ _ _ _ hxm hq0 hq1).mono ?_; rintro e w' ⟨rfl, rfl⟩; simp only [if_neg hqm])
          go_round
          case rel => exact ⟨k + 1, q - m, by omega, by go_num, rfl, by omega, by omega, ⟨by have := HQ.out; rw [sum_take_succ HX.out, ← HM.out]; omega⟩⟩
          case measure => simp [intOf]; omega
      · have : k = n := by omega
        subst this
        go_wp2
        go_ret
        exact ⟨_, rfl, .inr ⟨hq0, by have := HQ.out; rw [HN.out, List.take_length] at this; exact this⟩, rfl⟩

theorem szProgram (S : HP) (w : World) [H : SepI w S] (A : Option Addr) (c : Nat) (bs : List Bd) [r : Rd S A (cBds bs)] (hb : ∀ x ∈ bs, x.l.length ≤ maxLen) (hn : bs.length ≤ maxLen) :
    Calls Tryd.prog 34 #[.agg #[.slice A bs.length c], .int .i64 1048576] w fun e w' => ∃ r, e = .returned (.int .i64 r) ∧ SzOk 1048576 bs r ∧ Post w S w' := by
  go_enter Tryd.func34, Tryd.ntmps34
  go_wp2_with (go_at_call 67; refine (szStepSS _ _ _ _ bs hb hn 1048576 (by omega) (by omega)).mono ?_; rintro e w' ⟨r, rfl, hr, rfl⟩; rcases hr with rfl | ⟨hr0, hr⟩)
  all_goals go_ret
  · exact ⟨_, rfl, .inl rfl, Post.mk' (Ent.sep (S := _) inferInstance inferInstance) inferInstance⟩
  · exact ⟨_, rfl, .inr ⟨hr0, hr⟩, Post.mk' (Ent.sep (S := _) inferInstance inferInstance) inferInstance⟩

theorem info_step : (Tryd.prog.info? 78).map (fun i => (i.zero, i.size, i.bytes)) = some (some (.agg #[.int .i64 0, .int .i64 0, .int .i64 0]), 3, 24) := by kernel_rfl
theorem info_body : (Tryd.prog.info? 76).map (fun i => (i.zero, i.size, i.bytes)) = some (some (.slice none 0 0), 1, 24) := by kernel_rfl

theorem toStep (S : HP) (w : World) [H : SepI w S] (s : St) :
    Calls Tryd.prog 125 #[.agg #[.int .i64 s.k, .int .i64 s.a, .int .i64 s.b]] w fun e w' => e = .returned (.agg #[.int .i64 s.k, .int .i64 s.a, .int .i64 s.b]) ∧ Post w S w' := by
  go_enter Tryd.func125, Tryd.ntmps125
  go_wp2
  refine bodyPost_ret (v := .agg #[.int .i64 s.k, .int .i64 s.a, .int .i64 s.b]) (by simp [results, Tryd.results125, go_sem]) rfl ?_
  exact ⟨rfl, Post.mk' (Ent.sep (S := _) inferInstance inferInstance) inferInstance⟩

def zSt : St := ⟨0, 0, 0⟩
theorem cSts_append (l m : List St) : cSts (l ++ m) = cSts l ++ cSts m := by simp [cSts]
theorem cSts_zeros (n : Nat) : (List.replicate n (Value.agg #[.int .i64 0, .int .i64 0, .int .i64 0]).cells.toList).flatten = cSts (List.replicate n zSt) := by
  induction n with
  | zero => rfl
  | succ n ih => rw [List.replicate_succ, List.replicate_succ, List.flatten_cons, ih]; rfl
theorem cSts_put {l : List St} {n k : Nat} {s : St} (h : l[k]? = some s) (hk : k < n) :
    (((cSts (l.take k ++ List.replicate (n - k) zSt)).set (k * 3) (.int .i64 s.k)).set (k * 3 + 1) (.int .i64 s.a)).set (k * 3 + 2) (.int .i64 s.b) = cSts (l.take (k + 1) ++ List.replicate (n - (k + 1)) zSt) := by
  have hlt : k < l.length := (List.getElem?_eq_some_iff.1 h).1
  have hl : (cSts (l.take k)).length = k * 3 := by rw [cSts_len, List.length_take, Nat.min_eq_left (Nat.le_of_lt hlt)]
  rw [take_succ_eq h, cSts_append, cSts_append, cSts_append, show n - k = (n - (k + 1)) + 1 from by omega, List.replicate_succ]
  rw [List.set_append_right _ _ (by omega), List.set_append_right _ _ (by omega), List.set_append_right _ _ (by omega), hl, Nat.sub_self, Nat.add_sub_cancel_left, Nat.add_sub_cancel_left, List.append_assoc]
  rfl

set_option maxHeartbeats 1000000 in
theorem toStepS (S : HP) (w : World) [H : SepI w S] (A : Option Addr) (c : Nat) (l : List St) [r : Rd S A (cSts l)] (hn : l.length ≤ 1048576) :
    Calls Tryd.prog 97 #[.slice A l.length c] w fun e w' => ∃ g, e = .returned (.slice (some ⟨g, 0, none⟩) l.length l.length) ∧
      Post w (Row 78 3 (.slice (some ⟨g, 0, none⟩) l.length l.length) l.length (cSts l) * S) w' := by
  obtain ⟨n, hn'⟩ : ∃ n, n = l.length := ⟨_, rfl⟩
  have HN := Hd.mk hn'
  rw [← hn'] at hn ⊢
  clear hn'
  go_enter Tryd.func97, Tryd.ntmps97
  go_wp2_with (refine ev_make rfl 76 _ _ rfl n rfl rfl 78 3 24 _ Tryd.underlying76 info_step rfl (by decide) (by decide) (by omega) ?_; rw [cSts_zeros]; intro g w1 HS1 HE1)
  go_loopw [4] (fun i wr => ∃ k : Nat, k ≤ n ∧ i = .int .i64 k ∧ ExtI w wr ∧
    SepI wr (Row 78 3 (.slice (some ⟨g, 0, none⟩) n n) n (cSts (l.take k ++ List.replicate (n - k) zSt)) * S)) (fun i _ => n - (intOf i).toNat)
  case atStart => exact ⟨0, Nat.zero_le _, rfl, inferInstance, by simpa using HS1⟩
  case round =>
    obtain ⟨k, hk, rfl, HX, HS⟩ := hrel
    by_cases hlt : k < n
    · obtain ⟨x, hx⟩ := get_ex (xs := l) (k := k) (by rw [← HN.out]; exact hlt)
      obtain ⟨b, off, rfl⟩ := r.addr H (j := k) (by rw [cSts_len, ← HN.out]; omega)
      have c1 := r.cell (cSts_get hx).1
      have c2 := r.cell (cSts_get hx).2.1
      have c3 := r.cell (cSts_get hx).2.2
      have hz : (l.take k ++ List.replicate (n - k) zSt)[k]? = some zSt := by
        rw [List.getElem?_append_right (by rw [List.length_take, Nat.min_eq_left (by have := HN.out; omega)]; omega), List.getElem?_replicate, if_pos (by rw [List.length_take, Nat.min_eq_left (by have := HN.out; omega)]; omega)]
      have d1 : CellAt _ g _ _ := Row.cellAt (e := 78) (size := 3) (g := g) (n := n) (c := n) (F := S) (cSts_get hz).1
      have d2 : CellAt _ g _ _ := Row.cellAt (e := 78) (size := 3) (g := g) (n := n) (c := n) (F := S) (cSts_get hz).2.1
      have d3 : CellAt _ g _ _ := Row.cellAt (e := 78) (size := 3) (g := g) (n := n) (c := n) (F := S) (cSts_get hz).2.2
      have HG := Hd.mk hx
      clear hx hz
      go_wp2_with (go_at_call 125; refine (toStep _ _ x).mono ?_; rintro e w' ⟨rfl, HP'⟩; have HS2 := HP'.sep; have HE2 := HP'.ext; clear HP')
      go_roundw
      case rel => exact ⟨k + 1, by omega, by go_num, inferInstance, SepI.cast inferInstance (by rw [cSts_put HG.out hlt])⟩
      case measure => simp [intOf]; omega
    · have : k = n := by omega
      subst this
      go_wp2
      go_ret
      exact ⟨g, rfl, Post.mk' (by rw [Nat.sub_self, HN.out, List.take_length, List.replicate_zero, List.append_nil, ← HN.out] at HS; exact HS) HX⟩

/-- A body, a program's bodies, owned. -/
def OwnB (b : Bd) : HP := Row 78 3 (.slice b.p b.l.length b.c) b.l.length (cSts b.l)
def OwnP (v : Value) (bs : List Bd) : HP := Row 76 1 v bs.length (cBds bs) * stars (bs.map OwnB)
def zBd : Bd := ⟨none, 0, []⟩
theorem cBds_append (l m : List Bd) : cBds (l ++ m) = cBds l ++ cBds m := by simp [cBds]
theorem cBds_zeros (n : Nat) : (List.replicate n (Value.slice none 0 0).cells.toList).flatten = cBds (List.replicate n zBd) := by
  induction n with
  | zero => rfl
  | succ n ih => rw [List.replicate_succ, List.replicate_succ, List.flatten_cons, ih]; rfl
theorem cBds_put (d : List Bd) (n : Nat) (x : Bd) (h : d.length < n) : (cBds (d ++ List.replicate (n - d.length) zBd)).set d.length (cBd x) = cBds ((d ++ [x]) ++ List.replicate (n - (d.length + 1)) zBd) := by
  rw [cBds_append, cBds_append, cBds_append, show n - d.length = (n - (d.length + 1)) + 1 from by omega, List.replicate_succ, List.set_append_right _ _ (by rw [cBds_len]; exact Nat.le_refl _), cBds_len, Nat.sub_self, List.append_assoc]
  rfl
/-- The bodies that are read: each one's steps. -/
class Bodies (S : HP) (bs : List Bd) : Prop where
  rd : ∀ x ∈ bs, Rd S x.p (cSts x.l)
  small : ∀ x ∈ bs, x.l.length ≤ 1048576
  n : bs.length ≤ 1048576
instance (priority := low) Bodies.up (X S : HP) (bs : List Bd) [B : Bodies S bs] : Bodies (X * S) bs := ⟨fun x hx => have := B.rd x hx; inferInstance, B.small, B.n⟩

set_option maxHeartbeats 1000000 in
theorem toStepSS (S : HP) (w : World) [H : SepI w S] (A : Option Addr) (c : Nat) (bs : List Bd) [r : Rd S A (cBds bs)] [B : Bodies S bs] :
    Calls Tryd.prog 68 #[.slice A bs.length c] w fun e w' => ∃ g bs', e = .returned (.slice (some ⟨g, 0, none⟩) bs'.length bs'.length) ∧ bs'.map (·.l) = bs.map (·.l) ∧
      Post w (OwnP (.slice (some ⟨g, 0, none⟩) bs'.length bs'.length) bs' * S) w' := by
  have hn := B.n
  obtain ⟨n, hn'⟩ : ∃ n, n = bs.length := ⟨_, rfl⟩
  have HN := Hd.mk hn'
  have HB := Hd.mk B
  rw [← hn'] at hn ⊢
  clear hn' B
  go_enter Tryd.func68, Tryd.ntmps68
  go_wp2_with (refine ev_make rfl 46 _ _ rfl n rfl rfl 76 1 24 _ Tryd.underlying46 info_body rfl (by decide) (by decide) (by omega) ?_; rw [cBds_zeros]; intro g w1 HS1 HE1)
  go_loopw [4] (fun i wr => ∃ (k : Nat) (d : List Bd), k ≤ n ∧ i = .int .i64 k ∧ ExtI w wr ∧ Hd (d.length = k) ∧ Hd (d.map (·.l) = (bs.take k).map (·.l)) ∧
    SepI wr (Row 76 1 (.slice (some ⟨g, 0, none⟩) n n) n (cBds (d ++ List.replicate (n - k) zBd)) * (stars (d.map OwnB) * S))) (fun i _ => n - (intOf i).toNat)
  case atStart => exact ⟨0, [], Nat.zero_le _, rfl, inferInstance, ⟨rfl⟩, ⟨rfl⟩, Ent.sep (S := _) (T := Row 76 1 (.slice (some ⟨g, 0, none⟩) n n) n (cBds (List.replicate n zBd)) * (emp * S)) ⟨fun h a => ⟨h, by
    obtain ⟨h1, h2, a1, a2, dd, ee⟩ := a
    exact ⟨h1, h2, a1, ⟨fun _ => none, h2, trivial, a2, fun _ => .inl rfl, fun _ => rfl⟩, dd, ee⟩, fun _ => .inr rfl⟩⟩ HS1⟩
  case round =>
    obtain ⟨k, d, hk, rfl, HX, HD, HL, HS⟩ := hrel
    by_cases hlt : k < n
    · obtain ⟨x, hx⟩ := get_ex (xs := bs) (k := k) (by rw [← HN.out]; exact hlt)
      obtain ⟨b, off, rfl⟩ := r.addr H (j := k) (by rw [cBds_len, ← HN.out]; omega)
      have c1 := r.cell (cBds_get hx)
      have rx := HB.out.rd x (List.mem_of_getElem? hx)
      have sx := HB.out.small x (List.mem_of_getElem? hx)
      have hz : (d ++ List.replicate (n - k) zBd)[k]? = some zBd := by
        rw [List.getElem?_append_right (by rw [HD.out]; exact Nat.le_refl _), List.getElem?_replicate, if_pos (by rw [HD.out]; omega)]
      have d1 : CellAt _ g _ _ := Row.cellAt (e := 76) (size := 1) (g := g) (n := n) (c := n) (F := stars (d.map OwnB) * S) (cBds_get hz)
      have HG := Hd.mk hx
      clear hx hz
      go_wp2_with (go_at_call 97; refine (toStepS _ _ _ _ x.l sx).mono ?_; rintro e w' ⟨g', rfl, HP'⟩; have HS2 := HP'.sep; have HE2 := HP'.ext; clear HP')
      go_roundw
      case rel => exact ⟨k + 1, d ++ [⟨some ⟨g', 0, none⟩, x.l.length, x.l⟩], by omega, by go_num, inferInstance, ⟨by simp [HD.out]⟩, ⟨by rw [take_succ_eq HG.out, List.map_append, List.map_append, HL.out]; rfl⟩, SepI.cast inferInstance (by
        have := cBds_put d n ⟨some ⟨g', 0, none⟩, x.l.length, x.l⟩ (by rw [HD.out]; exact hlt)
        rw [HD.out] at this
        rw [← this, List.map_append, List.map_cons, List.map_nil, stars_snoc, star_assoc]
        exact star_left _ _ _)⟩
      case measure => simp [intOf]; omega
    · have : k = n := by omega
      subst this
      go_wp2
      go_ret
      refine ⟨g, d, (by rw [HD.out]; rfl), by rw [HL.out, HN.out, List.take_length], Post.mk' (SepI.cast HS ?_) HX⟩
      rw [Nat.sub_self, List.replicate_zero, List.append_nil, HD.out, ← star_assoc]
      unfold OwnP
      rw [HD.out]

theorem toProgram (S : HP) (w : World) [H : SepI w S] (A : Option Addr) (c : Nat) (bs : List Bd) [r : Rd S A (cBds bs)] [B : Bodies S bs] :
    Calls Tryd.prog 36 #[.agg #[.slice A bs.length c]] w fun e w' => ∃ g bs', e = .returned (.agg #[.slice (some ⟨g, 0, none⟩) bs'.length bs'.length]) ∧ bs'.map (·.l) = bs.map (·.l) ∧
      Post w (OwnP (.slice (some ⟨g, 0, none⟩) bs'.length bs'.length) bs' * S) w' := by
  have B' : ∀ X, Bodies (X * S) bs := fun X => ⟨fun x hx => have := B.rd x hx; inferInstance, B.small, B.n⟩
  go_enter Tryd.func36, Tryd.ntmps36
  go_wp2_with (go_at_call 68; refine (toStepSS _ _ _ _ bs).mono ?_; rintro e w' ⟨g, bs', rfl, hl, HP'⟩; have HS2 := HP'.sep; have HE2 := HP'.ext; clear HP')
  refine bodyPost_ret (v := .agg #[.slice (some ⟨g, 0, none⟩) bs'.length bs'.length]) (by simp [results, Tryd.results36, go_sem]) rfl ?_
  exact ⟨g, bs', rfl, hl, Post.mk' (Ent.sep (S := _) inferInstance inferInstance) inferInstance⟩
end Go.Proofs.YtnioipbofopocaaDoor
