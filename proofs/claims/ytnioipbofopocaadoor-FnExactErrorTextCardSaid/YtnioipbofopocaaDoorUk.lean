/- ErrorText by the program. Conditions: the table of powers of ten reads as it is laid; lengths within bounds. -/
import Derived.Test.YtnioipbofopocaaDoorUj
namespace Go.Proofs.YtnioipbofopocaaDoor
open Go.RowKit SL
attribute [local go_sem] cell_blk frozen_blk lt_blk cell_at frozen_row lt_row
set_option linter.unusedVariables false
set_option linter.unusedSimpArgs false

theorem ans_ErrText_no {es : List EC} {n : Int} (h : hasB es [n] = false) : ans_ErrText es n = (ByteArray.mk #[], false) := if_neg (by rw [h]; simp)
theorem ans_ErrText_yes {es : List EC} {k : Nat} {T : ByteArray} (h : hasB es [(k : Int)] = true) (h2 : (texts es)[k]? = some T) : ans_ErrText es k = (T, decide (T.size ≠ 0)) := by
  unfold ans_ErrText
  rw [if_pos h, getB_of h2]
set_option maxRecDepth 100000 in
set_option maxHeartbeats 4000000 in
theorem impl_text (S : HP) (w : World) [H : SepI w S] [t : TabI S] (A : Option Addr) (c : Nat) (es : List EN) [r : Rd S A (cENs es)] [B : Nodes S es] (k : Nat) (hv : errsB (es.map ecOf) = true) (hk : k < es.length) (T : ByteArray) (hT : (texts (es.map ecOf))[k]? = some T) :
    Calls Tryd.prog 57 #[.agg #[.slice A es.length c], .int .i64 (k : Int)] w fun e w' => e = .returned (.string T) ∧ Post w S w' := by
  have hmf : ∀ (fn : Fn) (first cap : Array Value) (w : World), (Instr.makeFunc fn first cap).run Tryd.prog w = .ok (.func fn first cap) w := fun _ _ _ _ => rfl
  have hn := B.n
  have HV := Hd.mk hv
  have HT : Hd ((tabS es.length (txtE (es.map ecOf)) es.length)[k]? = some T) := ⟨by have := hT; unfold texts at this; rw [List.length_map] at this; exact this⟩
  clear hv hT
  go_enter Tryd.func57, Tryd.ntmps57
  have HPR : Hd (∀ S' : HP, ∀ j, j < es.length → TellT (S' * (pts w.heap.size (.cells #[.slice A es.length c] 42 (0, 0)) * S)) 85 #[.pointer (some ⟨w.heap.size, 0, none⟩)] es.length (txtE (es.map ecOf)) j) :=
    ⟨fun S' j hj b W HW => by
      have hl := tabS_len es.length (txtE (es.map ecOf)) (es.length - (j + 1))
      exact impl_Text1 _ W w.heap.size A c es b j _ HV.out hj hl (fun i u hu => by
        have e1 : es.length = (es.map ecOf).length := by simp
        exact tabS_size (es.map ecOf) (es.length - (j + 1)) i u (by rw [← e1]; exact hu))⟩
  go_wp2_with fail
  refine (eachStr _ _ A c es.length hn _ _ _ enters_text HPR.out).mono ?_
  rintro e w2 ⟨b, rfl, HP⟩
  have HS2 := HP.sep
  have HE2 := HP.ext
  clear HP
  have d1 : ∀ F, CellAt (Row 9 1 (.slice (some ⟨b, 0, none⟩) es.length es.length) es.length (strs (tabS es.length (txtE (es.map ecOf)) es.length)) * F) b k (.string T) := fun F => Row.cellAt (strs_get HT.out)
  go_wp2
  go_ret
  exact ⟨rfl, Post.mk' (Ent.sep (S := _) inferInstance inferInstance) inferInstance⟩
set_option maxRecDepth 100000 in
set_option maxHeartbeats 4000000 in
theorem impl_ErrorText (S : HP) (w : World) [H : SepI w S] [t : TabI S] (A : Option Addr) (c : Nat) (es : List EN) [r : Rd S A (cENs es)] [B : Nodes S es] (a : Int) :
    Calls Tryd.prog 27 #[.agg #[.slice A es.length c], .int .i64 a] w (StrOk S (ans_ErrText (es.map ecOf) a) w) := by
  have hnot : ∀ (x : Bool) (w : World), (Op.unary .not (.bool x)).run Tryd.prog w = .ok (.bool (!x)) w := fun _ _ => rfl
  obtain ⟨ok, hok⟩ : ∃ ok, hasB (es.map ecOf) [a] = ok := ⟨_, rfl⟩
  have HOK := Hd.mk hok
  have hn := B.n
  clear hok
  cases ok
  · rw [ans_ErrText_no HOK.out]
    go_enter Tryd.func27, Tryd.ntmps27
    go_wp2_with fail
    refine (impl_has _ _ _ _ es _ 1 [a] (rl := Rd.of_blk (cs := #[.int .i64 a]) inferInstance) (by simp) _ HOK.out).mono ?_
    rintro e w1 ⟨rfl, HP⟩
    have HS1 := HP.sep
    have HE1 := HP.ext
    clear HP
    go_wp2
    refine bodyPost_ret (v := .tuple #[.string ⟨#[]⟩, .bool false]) (by simp [results, Tryd.results27, go_sem]) rfl ?_
    exact ⟨rfl, Post.mk' (Ent.sep (S := _) inferInstance inferInstance) inferInstance⟩
  · obtain ⟨hv, k, rfl, hk⟩ := hasB_one HOK.out
    obtain ⟨T, hT⟩ := texts_get hk
    have HAN := Hd.mk (ans_ErrText_yes HOK.out hT)
    rw [HAN.out]
    rw [List.length_map] at hk
    have HV := Hd.mk hv
    have HT := Hd.mk hT
    have HK := Hd.mk hk
    clear hv hT
    by_cases h0 : T.size = 0
    · obtain rfl := size_zeroE h0
      clear h0
      go_enter Tryd.func27, Tryd.ntmps27
      go_wp2_with fail
      refine (impl_has _ _ _ _ es _ 1 [(k : Int)] (rl := Rd.of_blk (cs := #[.int .i64 (k : Int)]) inferInstance) (by simp) _ HOK.out).mono ?_
      rintro e w1 ⟨rfl, HP⟩
      have HS1 := HP.sep
      have HE1 := HP.ext
      clear HP
      go_wp2_with fail
      refine (impl_text _ _ A c es k HV.out HK.out _ HT.out).mono ?_
      rintro e w2 ⟨rfl, HP⟩
      have HS2 := HP.sep
      have HE2 := HP.ext
      clear HP
      go_wp2
      refine bodyPost_ret (v := .tuple #[.string ⟨#[]⟩, .bool false]) (by simp [results, Tryd.results27, go_sem]) rfl ?_
      exact ⟨rfl, Post.mk' (Ent.sep (S := _) inferInstance inferInstance) inferInstance⟩
    · obtain ⟨hne, hnn, hie⟩ := nonempty_list h0
      have HD : Hd (decide (T.size ≠ 0) = true) := ⟨decide_eq_true h0⟩
      rw [HD.out]
      clear h0
      go_enter Tryd.func27, Tryd.ntmps27
      go_wp2_with fail
      refine (impl_has _ _ _ _ es _ 1 [(k : Int)] (rl := Rd.of_blk (cs := #[.int .i64 (k : Int)]) inferInstance) (by simp) _ HOK.out).mono ?_
      rintro e w1 ⟨rfl, HP⟩
      have HS1 := HP.sep
      have HE1 := HP.ext
      clear HP
      go_wp2_with fail
      refine (impl_text _ _ A c es k HV.out HK.out _ HT.out).mono ?_
      rintro e w2 ⟨rfl, HP⟩
      have HS2 := HP.sep
      have HE2 := HP.ext
      clear HP
      go_wp2
      refine bodyPost_ret (v := .tuple #[.string T, .bool true]) (by simp [results, Tryd.results27, go_sem]) rfl ?_
      exact ⟨rfl, Post.mk' (Ent.sep (S := _) inferInstance inferInstance) inferInstance⟩
end Go.Proofs.YtnioipbofopocaaDoor
