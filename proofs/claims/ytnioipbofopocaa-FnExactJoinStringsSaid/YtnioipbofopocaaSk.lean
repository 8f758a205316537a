/- JoinStrings by the reference; both alike. Conditions: lengths within bounds. -/
import Derived.Test.YtnioipbofopocaaSj
namespace Go.Proofs.Ytnioipbofopocaa
open Go.RowKit SL
attribute [local go_sem] cell_blk frozen_blk lt_blk cell_at frozen_row lt_row
set_option linter.unusedVariables false
set_option linter.unusedSimpArgs false

def joinJ (l : List ByteArray) (b : UInt8) (i : Nat) : ByteArray := if i = 0 then ByteArray.mk #[] else mkB (joinS (l.take i) b)
theorem joinJ_first {l : List ByteArray} {b : UInt8} {x : ByteArray} (h : l[0]? = some x) : joinJ l b 1 = x := by
  unfold joinJ
  rw [if_neg (by omega), take_succ_eq h, List.take_zero, List.nil_append, joinS_one, mkB_data]
theorem joinJ_next {l : List ByteArray} {b : UInt8} {i : Nat} {x : ByteArray} (hi : 0 < i) (h : l[i]? = some x) : joinJ l b (i + 1) = joinJ l b i ++ ⟨#[b]⟩ ++ x := by
  have hl : l.take i ≠ [] := by
    intro e
    have h2 := (List.getElem?_eq_some_iff.1 h).1
    have h3 : (l.take i).length = i := by rw [List.length_take]; omega
    rw [e] at h3
    simp at h3
    omega
  unfold joinJ
  rw [if_neg (by omega), if_neg (by omega), take_succ_eq h, joinS_snoc _ hl]
  show _ = mkB (joinS (l.take i) b) ++ mkB [b] ++ x
  rw [mkB_append, ← mkB_data x, mkB_append, mkB_data]
theorem joinJ_size {l : List ByteArray} {b : UInt8} {i : Nat} (hi : i ≤ l.length) : (joinJ l b i).size = bytesN (l.take i) + (i - 1) := by
  unfold joinJ
  split
  · rename_i h; subst h; simp [bytesN, ByteArray.size]
  · rename_i h
    have hll : (l.take i).length = i := by rw [List.length_take]; omega
    rw [mkB_size, joinS_len _ (by intro e; rw [e] at hll; simp at hll; omega), hll]
theorem empty_append (x : ByteArray) : ByteArray.mk #[] ++ x = x := by
  apply ByteArray.ext; simp [ByteArray.data_append]
set_option maxRecDepth 100000 in
set_option maxHeartbeats 4000000 in
theorem spec_JoinStrings (S : HP) (w : World) [H : SepI w S] (A : Option Addr) (c : Nat) (l : List ByteArray) [r : Rd S A (strs l)] (hn : l.length ≤ 1048576) (hb : bytesN l ≤ 1048576) (sep : ByteArray) (hsep : sep.size ≤ 1048576) :
    Calls Try.prog 5 #[.slice A l.length c, .string sep] w (StrOk S (ans_Join l sep) w) := by
  obtain ⟨n, hn'⟩ : ∃ n, n = l.length := ⟨_, rfl⟩
  have HN := Hd.mk hn'
  have HB := Hd.mk hb
  rw [← hn'] at hn ⊢
  by_cases h1 : sep.size = 1
  · obtain ⟨b, rfl⟩ := one_byte h1
    by_cases h0 : n = 0
    · have hl0 : l = [] := List.eq_nil_of_length_eq_zero (by omega)
      have HA : Hd (ans_Join l ⟨#[b]⟩ = (ByteArray.mk #[], false)) := ⟨by rw [hl0]; exact ans_Join_no (joinOk_nil b)⟩
      subst h0
      rw [HA.out]
      clear hl0 hn' h1 hsep
      go_enter Try.func5, Try.ntmps5
      go_wp2
      refine bodyPost_ret (v := .tuple #[.string ⟨#[]⟩, .bool false]) (by simp [results, Try.results5, go_sem]) rfl ?_
      exact ⟨rfl, Post.mk' inferInstance inferInstance⟩
    · have hn0 : 0 < n := by omega
      have hnb : ((n : Int) == 0) = false := beq_eq_false_iff_ne.2 (by omega)
      obtain ⟨v, hv⟩ : ∃ v, ans_Join l ⟨#[b]⟩ = v := ⟨_, rfl⟩
      obtain ⟨J, hJ⟩ : ∃ J, J = joinJ l b := ⟨_, rfl⟩
      have HJ0 : Hd (J 0 = ByteArray.mk #[]) := ⟨by rw [hJ]; rfl⟩
      have HJ1 : Hd (∀ x : ByteArray, l[0]? = some x → J 1 = x) := ⟨fun x h => by rw [hJ]; exact joinJ_first h⟩
      have HJY : Hd (∀ (i : Nat) (x : ByteArray), 0 < i → l[i]? = some x → J (i + 1) = J i ++ ⟨#[b]⟩ ++ x) := ⟨fun i x h0 h => by rw [hJ]; exact joinJ_next h0 h⟩
      have HJS : Hd (∀ i : Nat, i ≤ n → (J i).size = bytesN (l.take i) + (i - 1)) := ⟨fun i h => by rw [hJ]; exact joinJ_size (by omega)⟩
      have HVL : Hd (∀ i : Nat, i < n → 4000 < (J (i + 1)).size → v = (ByteArray.mk #[], false)) := ⟨fun i hi h => by
        rw [← hv]
        refine ans_Join_no (joinOk_long ?_)
        rw [HJS.out (i + 1) (by omega)] at h
        have := bytesN_take l (i + 1)
        omega⟩
      have HVH : Hd (∀ (i : Nat) (x : ByteArray), l[i]? = some x → x.data.toList.contains b = true → v = (ByteArray.mk #[], false)) := ⟨fun i x h hc => by rw [← hv]; exact ans_Join_no (joinOk_has h hc)⟩
      have HVY : Hd ((∀ (j : Nat) (x : ByteArray), l[j]? = some x → x.data.toList.contains b = false) → (J n).size ≤ 4000 → v = (J n, true)) := ⟨fun h2 h3 => by
        have e : J n = mkB (joinS l b) := by rw [hJ]; unfold joinJ; rw [if_neg h0, hn', List.take_length]
        rw [e, ← hv]
        rw [HJS.out n (Nat.le_refl _)] at h3
        exact ans_Join_yes (joinOk_all (by intro e; rw [e] at hn'; simp at hn'; omega) h2 (by rw [hn', List.take_length] at h3; exact h3))⟩
      have hb0 : ((ByteArray.mk #[b])[0]'(Nat.zero_lt_one)) = b := rfl
      have HSM : Hd (∀ (i : Nat) (x : ByteArray), l[i]? = some x → x.size ≤ 1048576) := ⟨fun i x h => by have := bytesN_at h; omega⟩
      rw [hv]
      clear hv hJ h1 hn' hsep
      go_enter Try.func5, Try.ntmps5
      go_wp2
      go_loopw [6, 7] (fun v6 v7 wr => ∃ i : Nat, i ≤ n ∧ v7 = .int .i64 i ∧ v6 = .string (J i) ∧ (i = 0 ∨ (J i).size ≤ 4000) ∧ Hd (∀ (j : Nat) (x : ByteArray), j < i → l[j]? = some x → x.data.toList.contains b = false) ∧ ExtI w wr ∧ SepI wr S) (fun _ v _ => n - (intOf v).toNat)
      case atStart => exact ⟨0, Nat.zero_le _, rfl, by rw [HJ0.out], .inl rfl, ⟨fun j x h => by omega⟩, inferInstance, inferInstance⟩
      case round =>
        obtain ⟨i, hi, rfl, rfl, hz, HC, HX1, HS1⟩ := hrel
        by_cases hlt : i < n
        · obtain ⟨x, hx⟩ := get_ex (xs := l) (k := i) (by rw [← HN.out]; exact hlt)
          obtain ⟨bl, off, rfl⟩ := r.addr H (j := i) (by rw [strs_len, ← HN.out]; exact hlt)
          have c1 := r.cell (strs_get hx)
          have hxs := HSM.out i x hx
          obtain ⟨q, hq⟩ : ∃ q, x.data.toList.contains b = q := ⟨_, rfl⟩
          have HQ := Hd.mk hq
          have HCT : Hd (∀ wy, Calls Try.prog 9 #[.string x, .int .u8 b.toNat] wy fun e w' => e = .returned (.bool q) ∧ w' = wy) := ⟨fun wy => spec_l1Stands x b wy (by unfold maxLen; omega) q hq⟩
          have HX := Hd.mk hx
          by_cases hi0 : i = 0
          · have hj1 := HJ1.out x (by rw [← hi0]; exact hx)
            subst hi0
            have HJN : Hd (J (0 + 1) = x) := ⟨hj1⟩
            obtain ⟨sz, hsz⟩ : ∃ sz, x.size = sz := ⟨_, rfl⟩
            have HSZ : Hd ((J (0 + 1)).size = sz) := ⟨by rw [HJN.out]; exact hsz⟩
            have hemp := empty_append x
            have hj0 := HJ0.out
            rw [hj0]
            clear hx hq hj1 hz hj0
            cases q
            · go_wp2
              go_quiet ((go_at_call 9; exact Calls.quiet_of_same (HCT.out _)))
              by_cases hbig : 4000 < sz
              · have HE : Hd (v = (ByteArray.mk #[], false)) := ⟨HVL.out _ hlt (by rw [HSZ.out]; exact hbig)⟩
                have hbi : (4000 : Int) < (sz : Int) := by omega
                go_wp2
                refine bodyPost_ret (v := .tuple #[.string ⟨#[]⟩, .bool false]) (by simp [results, Try.results5, go_sem]) rfl ?_
                rw [HE.out]
                exact ⟨rfl, Post.mk' inferInstance inferInstance⟩
              · have hbi : ¬ (4000 : Int) < (sz : Int) := by omega
                go_wp2
                go_roundw
                case rel => exact ⟨0 + 1, by omega, by go_num, by rw [HJN.out], .inr (by rw [HSZ.out]; omega), ⟨fun j y hj hy => by
                  by_cases hji : j < 0
                  · exact HC.out j y hji hy
                  · have : j = 0 := by omega
                    subst this
                    rw [HX.out] at hy
                    injection hy with hy
                    subst hy
                    exact HQ.out⟩, inferInstance, inferInstance⟩
                case measure => (simp [intOf]; try omega)
            · have HE : Hd (v = (ByteArray.mk #[], false)) := ⟨HVH.out _ x HX.out HQ.out⟩
              go_wp2
              go_quiet ((go_at_call 9; exact Calls.quiet_of_same (HCT.out _)))
              go_wp2
              refine bodyPost_ret (v := .tuple #[.string ⟨#[]⟩, .bool false]) (by simp [results, Try.results5, go_sem]) rfl ?_
              rw [HE.out]
              exact ⟨rfl, Post.mk' inferInstance inferInstance⟩
          · have hi1 : (0 : Int) < (i : Int) := by omega
            have hz4 : (J i).size ≤ 4000 := by rcases hz with h | h; omega; exact h
            have hnx := HJY.out i x (by omega) hx
            obtain ⟨Ji, hJi⟩ : ∃ Ji, J i = Ji := ⟨_, rfl⟩
            rw [hJi] at hnx hz4
            obtain ⟨sz, hsz⟩ : ∃ sz, (Ji ++ ⟨#[b]⟩ ++ x).size = sz := ⟨_, rfl⟩
            have HJN : Hd (J (i + 1) = Ji ++ ⟨#[b]⟩ ++ x) := ⟨hnx⟩
            have HSZ : Hd ((J (i + 1)).size = sz) := ⟨by rw [HJN.out]; exact hsz⟩
            have hsz2 : Ji.size + 1 + x.size = sz := by rw [← hsz]; simp [ByteArray.size_append]; rfl
            rw [hJi]
            clear hx hq hz hnx hJi hsz hi0
            cases q
            · go_wp2
              go_quiet ((go_at_call 9; exact Calls.quiet_of_same (HCT.out _)))
              by_cases hbig : 4000 < sz
              · have HE : Hd (v = (ByteArray.mk #[], false)) := ⟨HVL.out _ hlt (by rw [HSZ.out]; exact hbig)⟩
                have hbi : (4000 : Int) < (sz : Int) := by omega
                go_wp2
                refine bodyPost_ret (v := .tuple #[.string ⟨#[]⟩, .bool false]) (by simp [results, Try.results5, go_sem]) rfl ?_
                rw [HE.out]
                exact ⟨rfl, Post.mk' inferInstance inferInstance⟩
              · have hbi : ¬ (4000 : Int) < (sz : Int) := by omega
                go_wp2
                go_roundw
                case rel => exact ⟨i + 1, by omega, by go_num, by rw [HJN.out], .inr (by rw [HSZ.out]; omega), ⟨fun j y hj hy => by
                  by_cases hji : j < i
                  · exact HC.out j y hji hy
                  · have : j = i := by omega
                    subst this
                    rw [HX.out] at hy
                    injection hy with hy
                    subst hy
                    exact HQ.out⟩, inferInstance, inferInstance⟩
                case measure => (simp [intOf]; try omega)
            · have HE : Hd (v = (ByteArray.mk #[], false)) := ⟨HVH.out _ x HX.out HQ.out⟩
              go_wp2
              go_quiet ((go_at_call 9; exact Calls.quiet_of_same (HCT.out _)))
              go_wp2
              refine bodyPost_ret (v := .tuple #[.string ⟨#[]⟩, .bool false]) (by simp [results, Try.results5, go_sem]) rfl ?_
              rw [HE.out]
              exact ⟨rfl, Post.mk' inferInstance inferInstance⟩
        · have : i = n := by omega
          subst this
          have HE : Hd (v = (J i, true)) := ⟨HVY.out (fun j x hx => HC.out j x (by rw [HN.out]; exact (List.getElem?_eq_some_iff.1 hx).1) hx) (by rcases hz with h | h; omega; exact h)⟩
          obtain ⟨Ji, hJi⟩ : ∃ Ji, J i = Ji := ⟨_, rfl⟩
          have HJI := Hd.mk hJi
          rw [hJi]
          clear hJi hz
          go_wp2
          refine bodyPost_ret (v := .tuple #[.string Ji, .bool true]) (by simp [results, Try.results5, go_sem]) rfl ?_
          rw [HE.out, HJI.out]
          exact ⟨rfl, Post.mk' inferInstance inferInstance⟩
  · have hsz : ((sep.size : Int) == 1) = false := beq_eq_false_iff_ne.2 (by omega)
    have hszn : ((sep.size : Int) != 1) = true := bne_iff_ne.2 (by omega)
    rw [ans_Join_bad h1]
    clear h1 hn'
    go_enter Try.func5, Try.ntmps5
    go_wp2
    refine bodyPost_ret (v := .tuple #[.string ⟨#[]⟩, .bool false]) (by simp [results, Try.results5, go_sem]) rfl ?_
    exact ⟨rfl, Post.mk' inferInstance inferInstance⟩
end Go.Proofs.Ytnioipbofopocaa
