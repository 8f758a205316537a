/- The errors argument of a law: its size, its copy. Conditions: lengths within the model's bound. -/
import Derived.Test.YtnioipbofopocaaDoorIn
namespace Go.Proofs.YtnioipbofopocaaDoor
open Go.RowKit SL
attribute [local go_sem] cell_blk frozen_blk lt_blk cell_at frozen_row lt_row
set_option linter.unusedVariables false
set_option linter.unusedSimpArgs false

/-- An error, as it lies in memory. -/
structure EN where
  k : Int
  c : Int
  p : Option Addr
  pc : Nat
  l : List Int
def cEN (x : EN) : List Value := [.int .i64 x.k, .int .i64 x.c, .slice x.p x.l.length x.pc]
def cENs (l : List EN) : List Value := l.flatMap cEN
/-- What an error says. -/
abbrev EC := Int × Int × List Int
def ecOf (x : EN) : EC := (x.k, x.c, x.l)
theorem cENs_len (l : List EN) : (cENs l).length = l.length * 3 := flat_len (f := cEN) (fun _ => rfl) l
theorem cENs_get {l : List EN} {k : Nat} {x : EN} (h : l[k]? = some x) : (cENs l)[k * 3]? = some (.int .i64 x.k) ∧ (cENs l)[k * 3 + 1]? = some (.int .i64 x.c) ∧ (cENs l)[k * 3 + 2]? = some (.slice x.p x.l.length x.pc) :=
  ⟨flat_get (f := cEN) (k := 3) (fun _ => rfl) h 0 (by omega), flat_get (f := cEN) (k := 3) (fun _ => rfl) h 1 (by omega), flat_get (f := cEN) (k := 3) (fun _ => rfl) h 2 (by omega)⟩
theorem cENs_append (l m : List EN) : cENs (l ++ m) = cENs l ++ cENs m := by simp [cENs]
theorem cENs_upd (d r : List EN) (y x : EN) (k : Nat) (h : d.length = k) :
    (((cENs (d ++ y :: r)).set (k * 3) (.int .i64 x.k)).set (k * 3 + 1) (.int .i64 x.c)).set (k * 3 + 2) (.slice x.p x.l.length x.pc) = cENs ((d ++ [x]) ++ r) := by
  have hl : (cENs d).length = k * 3 := by rw [cENs_len, h]
  rw [cENs_append, cENs_append, cENs_append]
  rw [List.set_append_right _ _ (by omega), List.set_append_right _ _ (by omega), List.set_append_right _ _ (by omega), hl, Nat.sub_self, Nat.add_sub_cancel_left, Nat.add_sub_cancel_left, List.append_assoc]
  rfl
/-- The errors that are read: each one's parts. -/
class Nodes (S : HP) (es : List EN) : Prop where
  rd : ∀ x ∈ es, Rd S x.p (ints x.l)
  small : ∀ x ∈ es, x.l.length ≤ 1048576
  n : es.length ≤ 1048576
instance (priority := low) Nodes.up (X S : HP) (es : List EN) [B : Nodes S es] : Nodes (X * S) es := ⟨fun x hx => have := B.rd x hx; inferInstance, B.small, B.n⟩
def OwnI (x : EN) : HP := Row 3 1 (.slice x.p x.l.length x.pc) x.l.length (ints x.l)
def OwnE (v : Value) (es : List EN) : HP := Row 99 3 v es.length (cENs es) * stars (es.map OwnI)
def zEN : EN := ⟨0, 0, none, 0, []⟩
theorem info_node : (Tryd.prog.info? 99).map (fun i => (i.zero, i.size, i.bytes)) = some (some (.agg #[.int .i64 0, .int .i64 0, .slice none 0 0]), 3, 40) := by kernel_rfl
theorem cENs_zeros (n : Nat) : (List.replicate n (Value.agg #[.int .i64 0, .int .i64 0, .slice none 0 0]).cells.toList).flatten = cENs (List.replicate n zEN) := by
  induction n with
  | zero => rfl
  | succ n ih => rw [List.replicate_succ, List.replicate_succ, List.flatten_cons, ih]; rfl

/-- What the size's answer tells. -/
def SzE (left : Int) (es : List EN) (r : Int) : Prop := r = -1 ∨ (0 ≤ r ∧ r + es.length + ((es.map fun x => x.l.length).sum : Nat) = left)
def SzEPost (left : Int) (es : List EN) (S : HP) (w : World) (e : Ending) (w' : World) : Prop := ∃ r, e = .returned (.int .i64 r) ∧ SzE left es r ∧ Post w S w'
theorem sumE_take_succ {es : List EN} {k : Nat} {x : EN} (h : es[k]? = some x) : ((es.take (k + 1)).map fun x => x.l.length).sum = ((es.take k).map fun x => x.l.length).sum + x.l.length := by
  rw [take_succ_eq h]; simp

theorem szErrorNode (S : HP) (w : World) [H : SepI w S] (x : EN) (n : Nat) (left : Int) (hn : n ≤ maxLen) (h0 : 0 ≤ left) (h1 : left ≤ 1048576) :
    Calls Tryd.prog 78 #[.agg #[.int .i64 x.k, .int .i64 x.c, .slice x.p n x.pc], .int .i64 left] w fun e w' => e = .returned (.int .i64 (if left < n then -1 else left - n)) ∧ Post w S w' := by
  by_cases h : left < n
  · rw [if_pos h]
    go_enter Tryd.func78, Tryd.ntmps78
    go_wp2_with (go_at_call 111; refine (szIntS _ _ _ _ _ hn h0 h1).mono ?_; rintro e w' ⟨rfl, rfl⟩; simp only [if_pos h])
    go_ret
    exact ⟨rfl, Post.mk' (Ent.sep (S := _) inferInstance inferInstance) inferInstance⟩
  · rw [if_neg h]
    go_enter Tryd.func78, Tryd.ntmps78
    go_wp2_with (go_at_call 111; refine (szIntS _ _ _ _ _ hn h0 h1).mono ?_; rintro e w' ⟨rfl, rfl⟩; simp only [if_neg h])
    go_ret
    exact ⟨rfl, Post.mk' (Ent.sep (S := _) inferInstance inferInstance) inferInstance⟩

set_option maxRecDepth 100000 in
set_option maxHeartbeats 1000000 in
theorem szErrorNodeS (S : HP) (w : World) [H : SepI w S] (A : Option Addr) (c : Nat) (es : List EN) [r : Rd S A (cENs es)] (hb : ∀ x ∈ es, x.l.length ≤ maxLen) (hn : es.length ≤ maxLen) (left : Int) (h0 : 0 ≤ left) (h1 : left ≤ 1048576) :
    Calls Tryd.prog 52 #[.slice A es.length c, .int .i64 left] w (SzEPost left es S w) := by
  obtain ⟨n, hn'⟩ : ∃ n, n = es.length := ⟨_, rfl⟩
  have HN := Hd.mk hn'
  have HB := Hd.mk hb
  unfold maxLen at hn
  rw [← hn'] at hn ⊢
  clear hb hn'
  by_cases hl : left < n
  · go_enter Tryd.func52, Tryd.ntmps52
    go_wp2
    go_ret
    exact ⟨_, rfl, .inl rfl, Post.mk' inferInstance inferInstance⟩
  · go_enter Tryd.func52, Tryd.ntmps52
    go_wp2
    go_loopw [1, 5] (fun l i wr => ∃ (k : Nat) (q : Int), k ≤ n ∧ i = .int .i64 k ∧ l = .int .i64 q ∧ 0 ≤ q ∧ q ≤ 1048576 ∧ Hd (q + n + ((((es.take k).map fun x => x.l.length).sum : Nat) : Int) = left) ∧ SepI wr S ∧ ExtI w wr) (fun _ i _ => n - (intOf i).toNat)
    case atStart => exact ⟨0, _, Nat.zero_le _, rfl, rfl, by omega, by omega, ⟨by simp⟩, inferInstance, inferInstance⟩
    case round =>
      obtain ⟨k, q, hk, rfl, rfl, hq0, hq1, HQ, HS, HE⟩ := hrel
      by_cases hlt : k < n
      · obtain ⟨x, hx⟩ := get_ex (xs := es) (k := k) (by rw [← HN.out]; exact hlt)
        obtain ⟨b, off, rfl⟩ := r.addr H (j := k) (by rw [cENs_len, ← HN.out]; omega)
        have c1 := r.cell (cENs_get hx).1
        have c2 := r.cell (cENs_get hx).2.1
        have c3 := r.cell (cENs_get hx).2.2
        have hxm := HB.out x (List.mem_of_getElem? hx)
        have HX := Hd.mk hx
        clear hx
        obtain ⟨m, hm⟩ : ∃ m, m = x.l.length := ⟨_, rfl⟩
        rw [← hm] at c3 hxm
        have HM := Hd.mk hm
        clear hm
        by_cases hqm : q < m
        · go_wp2_with (go_at_call 78; refine (szErrorNode _ _ x _ _ hxm hq0 hq1).mono ?_; rintro e w' ⟨rfl, HP⟩; have HS2 := HP.sep; have HE2 := HP.ext; clear HP; simp only [if_pos hqm])
          go_ret
          exact ⟨_, rfl, .inl rfl, Post.mk' inferInstance inferInstance⟩
        · go_wp2_with (go_at_call 78; refine (szErrorNode _ _ x _ _ hxm hq0 hq1).mono ?_; rintro e w' ⟨rfl, HP⟩; have HS2 := HP.sep; have HE2 := HP.ext; clear HP; simp only [if_neg hqm])
          go_roundw
          case rel => exact ⟨k + 1, q - m, by omega, by go_num, rfl, by omega, by omega, ⟨by have := HQ.out; rw [sumE_take_succ HX.out, ← HM.out]; omega⟩, inferInstance, inferInstance⟩
          case measure => simp [intOf]; omega
      · have : k = n := by omega
        subst this
        go_wp2
        go_ret
        exact ⟨_, rfl, .inr ⟨hq0, by have := HQ.out; rw [HN.out, List.take_length] at this; exact this⟩, Post.mk' inferInstance inferInstance⟩

theorem szErrors (S : HP) (w : World) [H : SepI w S] (A : Option Addr) (c : Nat) (es : List EN) [r : Rd S A (cENs es)] (hb : ∀ x ∈ es, x.l.length ≤ maxLen) (hn : es.length ≤ maxLen) :
    Calls Tryd.prog 24 #[.agg #[.slice A es.length c], .int .i64 1048576] w (SzEPost 1048576 es S w) := by
  go_enter Tryd.func24, Tryd.ntmps24
  go_wp2_with (go_at_call 52; refine (szErrorNodeS _ _ _ _ es hb hn 1048576 (by omega) (by omega)).mono ?_; rintro e w' ⟨r, rfl, hr, HP⟩; have HS2 := HP.sep; have HE2 := HP.ext; clear HP; rcases hr with rfl | ⟨hr0, hr⟩)
  all_goals go_ret
  · exact ⟨_, rfl, .inl rfl, Post.mk' (Ent.sep (S := _) inferInstance inferInstance) inferInstance⟩
  · exact ⟨_, rfl, .inr ⟨hr0, hr⟩, Post.mk' (Ent.sep (S := _) inferInstance inferInstance) inferInstance⟩

theorem toErrorNode (S : HP) (w : World) [H : SepI w S] (x : EN) [r : Rd S x.p (ints x.l)] (hn : x.l.length ≤ 1048576) :
    Calls Tryd.prog 80 #[.agg #[.int .i64 x.k, .int .i64 x.c, .slice x.p x.l.length x.pc]] w fun e w' => ∃ g, e = .returned (.agg #[.int .i64 x.k, .int .i64 x.c, .slice (some ⟨g, 0, none⟩) x.l.length x.l.length]) ∧
      Post w (Row 3 1 (.slice (some ⟨g, 0, none⟩) x.l.length x.l.length) x.l.length (ints x.l) * S) w' := by
  go_enter Tryd.func80, Tryd.ntmps80
  go_wp2_with (go_at_call 113; refine (toIntS _ _ _ _ x.l hn).mono ?_; rintro e w' ⟨g, rfl, HP⟩; have HS2 := HP.sep; have HE2 := HP.ext; clear HP)
  refine bodyPost_ret (v := .agg #[.int .i64 x.k, .int .i64 x.c, .slice (some ⟨g, 0, none⟩) x.l.length x.l.length]) (by simp [results, Tryd.results80, go_sem]) rfl ?_
  exact ⟨g, rfl, Post.mk' (Ent.sep (S := _) inferInstance inferInstance) inferInstance⟩

set_option maxRecDepth 100000 in
set_option maxHeartbeats 1000000 in
theorem toErrorNodeS (S : HP) (w : World) [H : SepI w S] (A : Option Addr) (c : Nat) (es : List EN) [r : Rd S A (cENs es)] [B : Nodes S es] :
    Calls Tryd.prog 55 #[.slice A es.length c] w fun e w' => ∃ g es', e = .returned (.slice (some ⟨g, 0, none⟩) es'.length es'.length) ∧ es'.map ecOf = es.map ecOf ∧
      Post w (OwnE (.slice (some ⟨g, 0, none⟩) es'.length es'.length) es' * S) w' := by
  have hn := B.n
  obtain ⟨n, hn'⟩ : ∃ n, n = es.length := ⟨_, rfl⟩
  have HN := Hd.mk hn'
  have HB := Hd.mk B
  rw [← hn'] at hn ⊢
  clear hn' B
  go_enter Tryd.func55, Tryd.ntmps55
  go_wp2_with (refine ev_make rfl 40 _ _ rfl n rfl rfl 99 3 40 _ Tryd.underlying40 info_node rfl (by decide) (by decide) (by omega) ?_; rw [cENs_zeros]; intro g w1 HS1 HE1)
  go_loopw [4] (fun i wr => ∃ (k : Nat) (d : List EN), k ≤ n ∧ i = .int .i64 k ∧ ExtI w wr ∧ Hd (d.length = k) ∧ Hd (d.map ecOf = (es.take k).map ecOf) ∧
    SepI wr (Row 99 3 (.slice (some ⟨g, 0, none⟩) n n) n (cENs (d ++ List.replicate (n - k) zEN)) * (stars (d.map OwnI) * S))) (fun i _ => n - (intOf i).toNat)
  case atStart => exact ⟨0, [], Nat.zero_le _, rfl, inferInstance, ⟨rfl⟩, ⟨rfl⟩, SepI.cast (SepI.emp HS1) (star_left _ _ _)⟩
  case round =>
    obtain ⟨k, d, hk, rfl, HX, HD, HL, HS⟩ := hrel
    by_cases hlt : k < n
    · obtain ⟨x, hx⟩ := get_ex (xs := es) (k := k) (by rw [← HN.out]; exact hlt)
      obtain ⟨b, off, rfl⟩ := r.addr H (j := k) (by rw [cENs_len, ← HN.out]; omega)
      have c1 := r.cell (cENs_get hx).1
      have c2 := r.cell (cENs_get hx).2.1
      have c3 := r.cell (cENs_get hx).2.2
      have rx := HB.out.rd x (List.mem_of_getElem? hx)
      have sx := HB.out.small x (List.mem_of_getElem? hx)
      have hz : (d ++ List.replicate (n - k) zEN)[k]? = some zEN := by
        rw [List.getElem?_append_right (by rw [HD.out]; exact Nat.le_refl _), List.getElem?_replicate, if_pos (by rw [HD.out]; omega)]
      have d1 : CellAt _ g _ _ := Row.cellAt (e := 99) (size := 3) (g := g) (n := n) (c := n) (F := stars (d.map OwnI) * S) (cENs_get hz).1
      have d2 : CellAt _ g _ _ := Row.cellAt (e := 99) (size := 3) (g := g) (n := n) (c := n) (F := stars (d.map OwnI) * S) (cENs_get hz).2.1
      have d3 : CellAt _ g _ _ := Row.cellAt (e := 99) (size := 3) (g := g) (n := n) (c := n) (F := stars (d.map OwnI) * S) (cENs_get hz).2.2
      have HG := Hd.mk hx
      clear hx hz
      go_wp2_with (go_at_call 80; refine (toErrorNode _ _ x sx).mono ?_; rintro e w' ⟨g', rfl, HP⟩; have HS2 := HP.sep; have HE2 := HP.ext; clear HP)
      go_roundw
      case rel => exact ⟨k + 1, d ++ [⟨x.k, x.c, some ⟨g', 0, none⟩, x.l.length, x.l⟩], by omega, by go_num, inferInstance, ⟨by simp [HD.out]⟩, ⟨by rw [take_succ_eq HG.out, List.map_append, List.map_append, HL.out]; rfl⟩, SepI.cast inferInstance (by
        rw [show n - k = (n - (k + 1)) + 1 from by omega, List.replicate_succ, ← cENs_upd d _ zEN ⟨x.k, x.c, some ⟨g', 0, none⟩, x.l.length, x.l⟩ k HD.out, List.map_append, List.map_cons, List.map_nil, stars_snoc, star_assoc]
        exact star_left _ _ _)⟩
      case measure => simp [intOf]; omega
    · have : k = n := by omega
      subst this
      go_wp2
      go_ret
      refine ⟨g, d, (by rw [HD.out]; rfl), by rw [HL.out, HN.out, List.take_length], Post.mk' (SepI.cast HS ?_) HX⟩
      rw [Nat.sub_self, List.replicate_zero, List.append_nil, HD.out, ← star_assoc]
      unfold OwnE
      rw [HD.out]

theorem toErrors (S : HP) (w : World) [H : SepI w S] (A : Option Addr) (c : Nat) (es : List EN) [r : Rd S A (cENs es)] [B : Nodes S es] :
    Calls Tryd.prog 26 #[.agg #[.slice A es.length c]] w fun e w' => ∃ g es', e = .returned (.agg #[.slice (some ⟨g, 0, none⟩) es'.length es'.length]) ∧ es'.map ecOf = es.map ecOf ∧
      Post w (OwnE (.slice (some ⟨g, 0, none⟩) es'.length es'.length) es' * S) w' := by
  go_enter Tryd.func26, Tryd.ntmps26
  go_wp2_with (go_at_call 55; refine (toErrorNodeS _ _ _ _ es).mono ?_; rintro e w' ⟨g, es', rfl, hl, HP'⟩; have HS2 := HP'.sep; have HE2 := HP'.ext; clear HP')
  refine bodyPost_ret (v := .agg #[.slice (some ⟨g, 0, none⟩) es'.length es'.length]) (by simp [results, Tryd.results26, go_sem]) rfl ?_
  exact ⟨g, es', rfl, hl, Post.mk' (Ent.sep (S := _) inferInstance inferInstance) inferInstance⟩
end Go.Proofs.YtnioipbofopocaaDoor
