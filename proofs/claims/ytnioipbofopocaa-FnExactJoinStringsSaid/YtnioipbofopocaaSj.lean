/- JoinStrings, by the program and by the reference. Conditions: lengths within bounds. -/
import Derived.Test.YtnioipbofopocaaSb
import Derived.Test.YtnioipbofopocaaSh
import Derived.Lib.JoinLaws
namespace Go.Proofs.Ytnioipbofopocaa
open Go.RowKit SL
attribute [local go_sem] cell_blk frozen_blk lt_blk cell_at frozen_row lt_row
set_option linter.unusedVariables false
set_option linter.unusedSimpArgs false

/-- The strings up to one, joined. -/
def joinS (l : List ByteArray) (b : UInt8) : List UInt8 := Lib.join (l.map (·.data.toList)) [b]
theorem joinS_one (x : ByteArray) (b : UInt8) : joinS [x] b = x.data.toList := by unfold joinS; exact Lib.join_one _ _
theorem joinTail_snoc (sep : List UInt8) (r : List (List UInt8)) (y : List UInt8) : Lib.joinTail sep (r ++ [y]) = Lib.joinTail sep r ++ sep ++ y := by simp [Lib.joinTail]
theorem joinS_snoc (l : List ByteArray) (hl : l ≠ []) (x : ByteArray) (b : UInt8) : joinS (l ++ [x]) b = joinS l b ++ [b] ++ x.data.toList := by
  cases l with
  | nil => exact absurd rfl hl
  | cons y l =>
    unfold joinS
    rw [List.cons_append, List.map_cons, List.map_append, List.map_cons, List.map_cons, List.map_nil, Lib.join_cons, Lib.join_cons, joinTail_snoc]
    simp
theorem joinS_len (l : List ByteArray) (hl : l ≠ []) (b : UInt8) : (joinS l b).length = bytesN l + (l.length - 1) := by
  have key : ∀ (n : Nat) (l : List ByteArray), l.length = n → l ≠ [] → (joinS l b).length = bytesN l + (l.length - 1) := by
    intro n
    induction n with
    | zero => intro l h h2; exact absurd (List.eq_nil_of_length_eq_zero h) h2
    | succ n ih =>
      intro l hl h2
      obtain ⟨y, hy⟩ := get_ex (xs := l) (k := n) (by omega)
      have e : l = l.take n ++ [y] := by rw [← take_succ_eq hy, ← hl, List.take_length]
      have hln : (l.take n).length = n := by rw [List.length_take]; omega
      rw [e]
      by_cases h : l.take n = []
      · rw [h, List.nil_append, joinS_one]; simp [bytesN]
      · rw [joinS_snoc _ h, List.length_append, List.length_append, ih _ hln h, bytesN_append, List.length_append, hln]
        have := List.length_pos_iff.2 h
        simp [bytesN]
        omega
  exact key _ l rfl hl
def mkB (l : List UInt8) : ByteArray := ⟨l.toArray⟩
theorem mkB_data (x : ByteArray) : mkB x.data.toList = x := by unfold mkB; cases x; simp
theorem mkB_append (l m : List UInt8) : mkB l ++ mkB m = mkB (l ++ m) := ByteArray.mk_append_mk l m
theorem mkB_size (l : List UInt8) : (mkB l).size = l.length := by simp [mkB, ByteArray.size]
/-- Which strings can be joined, and by what. -/
def joinOk (l : List ByteArray) (b : UInt8) : Bool := decide (l ≠ []) && l.all (fun x => !x.data.toList.contains b) && decide (bytesN l + (l.length - 1) ≤ 4000)
def ans_Join (l : List ByteArray) (sep : ByteArray) : ByteArray × Bool :=
  if sep.size = 1 ∧ joinOk l (sep.data.toList.headD 0) = true then (mkB (joinS l (sep.data.toList.headD 0)), true) else (ByteArray.mk #[], false)
theorem ans_Join_bad {l : List ByteArray} {sep : ByteArray} (h : sep.size ≠ 1) : ans_Join l sep = (ByteArray.mk #[], false) := by unfold ans_Join; rw [if_neg (fun q => h q.1)]
theorem ans_Join_yes {l : List ByteArray} {b : UInt8} (h : joinOk l b = true) : ans_Join l ⟨#[b]⟩ = (mkB (joinS l b), true) := by unfold ans_Join; rw [if_pos ⟨rfl, h⟩]; rfl
theorem ans_Join_no {l : List ByteArray} {b : UInt8} (h : joinOk l b = false) : ans_Join l ⟨#[b]⟩ = (ByteArray.mk #[], false) := by
  unfold ans_Join
  rw [if_neg (fun q => by have h2 : joinOk l b = true := q.2; rw [h] at h2; cases h2)]
theorem joinOk_nil (b : UInt8) : joinOk [] b = false := rfl
theorem joinOk_has {l : List ByteArray} {b : UInt8} {i : Nat} {x : ByteArray} (h : l[i]? = some x) (hc : x.data.toList.contains b = true) : joinOk l b = false := by
  unfold joinOk
  have : l.all (fun x => !x.data.toList.contains b) = false := by
    rw [List.all_eq_false]
    exact ⟨x, List.mem_of_getElem? h, by rw [hc]; simp⟩
  rw [this, Bool.and_false, Bool.false_and]
theorem joinOk_long {l : List ByteArray} {b : UInt8} (h : 4000 < bytesN l + (l.length - 1)) : joinOk l b = false := by
  have e : decide (bytesN l + (l.length - 1) ≤ 4000) = false := decide_eq_false (by omega)
  unfold joinOk
  rw [e, Bool.and_false]
theorem joinOk_all {l : List ByteArray} {b : UInt8} (h0 : l ≠ []) (h1 : ∀ (j : Nat) (x : ByteArray), l[j]? = some x → x.data.toList.contains b = false) (h2 : bytesN l + (l.length - 1) ≤ 4000) : joinOk l b = true := by
  unfold joinOk
  rw [decide_eq_true h0, decide_eq_true h2, Bool.true_and, Bool.and_true, List.all_eq_true]
  intro x hx
  obtain ⟨j, hj⟩ := List.mem_iff_getElem?.1 hx
  rw [h1 j x hj]; rfl
theorem one_byte {s : ByteArray} (h : s.size = 1) : ∃ b, s = ⟨#[b]⟩ := by
  obtain ⟨⟨l⟩⟩ := s
  match l, h with
  | [b], _ => exact ⟨b, rfl⟩
theorem Post.below {S : HP} {w w' : World} (H : SepI w S) (hb : Below w.heap.size w w') : SepI w' S ∧ ExtI w w' := ⟨H.below hb, ⟨hb.os, hb.tape, hb.output, hb.size⟩⟩
def StrOk (S : HP) (a : ByteArray × Bool) (w : World) (e : Ending) (w' : World) : Prop := e = .returned (.tuple #[.string a.1, .bool a.2]) ∧ Post w S w'
set_option maxRecDepth 100000 in
set_option maxHeartbeats 4000000 in
theorem impl_JoinStrings (S : HP) (w : World) [H : SepI w S] (A : Option Addr) (c : Nat) (l : List ByteArray) [r : Rd S A (strs l)] (hcap : l.length ≤ c) (hn : l.length ≤ 1048576) (hb : bytesN l ≤ 1048576) (sep : ByteArray) (hsep : sep.size ≤ 1048576) :
    Calls Try.prog 7 #[.slice A l.length c, .string sep] w (StrOk S (ans_Join l sep) w) := by
  obtain ⟨n, hn'⟩ : ∃ n, n = l.length := ⟨_, rfl⟩
  have HN := Hd.mk hn'
  have HB := Hd.mk hb
  rw [← hn'] at hn hcap ⊢
  by_cases h0 : n = 0
  · have hl0 : l = [] := List.eq_nil_of_length_eq_zero (by omega)
    have HA : Hd (ans_Join l sep = (ByteArray.mk #[], false)) := ⟨by
      by_cases h1 : sep.size = 1
      · obtain ⟨b, rfl⟩ := one_byte h1
        rw [hl0]; exact ans_Join_no (joinOk_nil b)
      · exact ans_Join_bad h1⟩
    subst h0
    rw [HA.out]
    clear hl0 hn'
    go_enter Try.func7, Try.ntmps7
    go_wp2
    refine bodyPost_ret (v := .tuple #[.string ⟨#[]⟩, .bool false]) (by simp [results, Try.results7, go_sem]) rfl ?_
    exact ⟨rfl, Post.mk' inferInstance inferInstance⟩
  · have hn0 : 0 < n := by omega
    have hnb : ((n : Int) == 0) = false := beq_eq_false_iff_ne.2 (by omega)
    by_cases h1 : sep.size = 1
    · obtain ⟨b, rfl⟩ := one_byte h1
      obtain ⟨v, hv⟩ : ∃ v, ans_Join l ⟨#[b]⟩ = v := ⟨_, rfl⟩
      have HVL : Hd (4000 < bytesN l + (n - 1) → v = (ByteArray.mk #[], false)) := ⟨fun h => by rw [← hv]; exact ans_Join_no (joinOk_long (by rw [← hn']; exact h))⟩
      have HVH : Hd (∀ (i : Nat) (x : ByteArray), l[i]? = some x → x.data.toList.contains b = true → v = (ByteArray.mk #[], false)) := ⟨fun i x h hc => by rw [← hv]; exact ans_Join_no (joinOk_has h hc)⟩
      have HVY : Hd ((∀ (j : Nat) (x : ByteArray), l[j]? = some x → x.data.toList.contains b = false) → bytesN l + (n - 1) ≤ 4000 → v = (mkB (joinS l b), true)) := ⟨fun h2 h3 => by rw [← hv]; exact ans_Join_yes (joinOk_all (by intro e; rw [e] at hn'; simp at hn'; omega) h2 (by rw [← hn']; exact h3))⟩
      have HJL : Hd ((joinS l b).length = bytesN l + (n - 1)) := ⟨by rw [joinS_len l (by intro e; rw [e] at hn'; simp at hn'; omega), ← hn']⟩
      obtain ⟨Z, hZ⟩ : ∃ Z : Nat → Nat, Z = fun i => (n - 1) + bytesN (l.take i) := ⟨_, rfl⟩
      have HZ0 : Hd (Z 0 = n - 1) := ⟨by rw [hZ]; simp [bytesN]⟩
      have HZY : Hd (∀ (i : Nat) (x : ByteArray), l[i]? = some x → Z (i + 1) = Z i + x.size) := ⟨fun i x h => by rw [hZ]; simp only; rw [bytesN_next h]; omega⟩
      have HZN : Hd (Z n = bytesN l + (n - 1)) := ⟨by rw [hZ]; simp only; rw [hn', List.take_length]; omega⟩
      have HZB : Hd (∀ i, Z i ≤ bytesN l + (n - 1)) := ⟨fun i => by rw [hZ]; simp only; have := bytesN_take l i; omega⟩
      have hwl : IntKind.i64.wrap ((n : Int) - 1) = ((n - 1 : Nat) : Int) := by rw [IntWalk.i64_in _ (by omega)]; omega
      rw [hv]
      clear hv hZ h1 hn' hsep
      go_enter Try.func7, Try.ntmps7
      go_wp2
      go_loopw [6, 22] (fun v6 v22 wr => ∃ i : Nat, i ≤ n ∧ v22 = .int .i64 i ∧ v6 = .int .i64 (Z i : Nat) ∧ (i = 0 ∨ Z i ≤ 4000) ∧ Hd (∀ (j : Nat) (x : ByteArray), j < i → l[j]? = some x → x.data.toList.contains b = false) ∧ wr = w) (fun _ v _ => n - (intOf v).toNat)
      case atStart => exact ⟨0, Nat.zero_le _, rfl, by rw [HZ0.out], .inl rfl, ⟨fun j x h => by omega⟩, by first | trivial | rfl⟩
      case round =>
        obtain ⟨i, hi, rfl, rfl, hz, HC, rfl⟩ := hrel
        by_cases hlt : i < n
        · obtain ⟨x, hx⟩ := get_ex (xs := l) (k := i) (by rw [← HN.out]; exact hlt)
          obtain ⟨bl, off, rfl⟩ := r.addr H (j := i) (by rw [strs_len, ← HN.out]; exact hlt)
          have c1 := r.cell (strs_get hx)
          have hnx := HZY.out i x hx
          have hzb := HZB.out (i + 1)
          have hbb := HB.out
          obtain ⟨z, hz1⟩ : ∃ z, Z i = z := ⟨_, rfl⟩
          obtain ⟨z2, hz2⟩ : ∃ z2, Z (i + 1) = z2 := ⟨_, rfl⟩
          have HZ2 := Hd.mk hz2
          rw [hz1] at hnx hz
          rw [hz2] at hnx hzb
          rw [hz1]
          have hw : IntKind.i64.wrap ((z : Int) + (x.size : Int)) = (z2 : Int) := by rw [IntWalk.i64_in _ (by omega)]; omega
          have hxz : x.size ≤ 2097152 := by omega
          obtain ⟨q, hq⟩ : ∃ q, decide (0 ≤ Lib.indexByte x.data.toList b) = q := ⟨_, rfl⟩
          have HQ : Hd (x.data.toList.contains b = q) := ⟨by rw [Lib.contains_iff_indexByte]; exact hq⟩
          have HCT := Hd.mk (Try.strings_Contains_one x b wr)
          rw [hq] at HCT
          have HX := Hd.mk hx
          clear hx hnx hz1 hz2 hq hbb hz
          by_cases hbig : 4000 < z2
          · have HE : Hd (v = (ByteArray.mk #[], false)) := ⟨HVL.out (by have := HZB.out (i + 1); rw [HZ2.out] at this; omega)⟩
            go_wp2
            refine bodyPost_ret (v := .tuple #[.string ⟨#[]⟩, .bool false]) (by simp [results, Try.results7, go_sem]) rfl ?_
            rw [HE.out]
            exact ⟨rfl, Post.mk' inferInstance inferInstance⟩
          · have hsm : z2 ≤ 4000 := by omega
            have hsmi : ¬ (4000 : Int) < (z2 : Int) := by omega
            cases q
            · go_wp2_with fail
              refine HCT.out.mono ?_
              rintro e wz ⟨rfl, hz⟩
              have hz2 := hz.symm
              subst hz2
              clear hz
              go_wp2
              go_roundw
              case rel => exact ⟨i + 1, by omega, by go_num, by rw [HZ2.out], .inr (by rw [HZ2.out]; exact hsm), ⟨fun j y hj hy => by
                by_cases hji : j < i
                · exact HC.out j y hji hy
                · have : j = i := by omega
                  subst this
                  rw [HX.out] at hy
                  injection hy with hy
                  subst hy
                  exact HQ.out⟩, by first | trivial | rfl⟩
              case measure => (simp [intOf]; try omega)
            · have HE : Hd (v = (ByteArray.mk #[], false)) := ⟨HVH.out i x HX.out HQ.out⟩
              go_wp2_with fail
              refine HCT.out.mono ?_
              rintro e wz ⟨rfl, hz⟩
              have hz2 := hz.symm
              subst hz2
              clear hz
              go_wp2
              refine bodyPost_ret (v := .tuple #[.string ⟨#[]⟩, .bool false]) (by simp [results, Try.results7, go_sem]) rfl ?_
              rw [HE.out]
              exact ⟨rfl, Post.mk' inferInstance inferInstance⟩
        · have : i = n := by omega
          subst this
          have hz4 : Z i ≤ 4000 := by rcases hz with h | h; omega; exact h
          have hzn := HZN.out
          have HE : Hd (v = (mkB (joinS l b), true)) := ⟨HVY.out (fun j x hx => HC.out j x (by rw [HN.out]; exact (List.getElem?_eq_some_iff.1 hx).1) hx) (by omega)⟩
          obtain ⟨bl, off, rfl⟩ := r.addr H (j := 0) (by rw [strs_len, ← HN.out]; exact hn0)
          have hjl := HJL.out
          have HJ : Hd (Calls Try.prog 11 #[.slice (some ⟨bl, off, none⟩) i c, .string ⟨#[b]⟩] wr fun e w' => e = .returned (.string (mkB (joinS l b))) ∧ Below wr.heap.size wr w') := ⟨by
            have := HN.out
            rw [HN.out]
            exact Try.strings_Join bl off c l ⟨#[b]⟩ wr (fun j x hx => by have c1 := r.cell (strs_get hx); exact cell_at wr S bl (off + j) _) (lt_rd r (by rw [strs_len]; omega)) (by omega) (by omega) (by show (joinS l b).length ≤ _; omega)⟩
          clear hzn hjl hz4 hz
          go_wp2_with fail
          refine HJ.out.mono ?_
          rintro e w2 ⟨rfl, HBE⟩
          obtain ⟨HS2, HE2⟩ := Post.below H HBE
          go_wp2
          refine bodyPost_ret (v := .tuple #[.string (mkB (joinS l b)), .bool true]) (by simp [results, Try.results7, go_sem]) rfl ?_
          rw [HE.out]
          exact ⟨rfl, Post.mk' inferInstance inferInstance⟩
    · have hsz : ((sep.size : Int) == 1) = false := beq_eq_false_iff_ne.2 (by omega)
      have hszn : ((sep.size : Int) != 1) = true := bne_iff_ne.2 (by omega)
      rw [ans_Join_bad h1]
      clear h1 hn'
      go_enter Try.func7, Try.ntmps7
      go_wp2
      refine bodyPost_ret (v := .tuple #[.string ⟨#[]⟩, .bool false]) (by simp [results, Try.results7, go_sem]) rfl ?_
      exact ⟨rfl, Post.mk' inferInstance inferInstance⟩
end Go.Proofs.Ytnioipbofopocaa
