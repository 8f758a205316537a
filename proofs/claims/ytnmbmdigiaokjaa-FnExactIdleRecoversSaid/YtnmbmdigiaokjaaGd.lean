/- GuardsOf: plain law, the closure. Conditions: lengths within bounds. -/
import Derived.Test.YtnmbmdigiaokjaaGc
import Derived.Test.YtnmbmdigiaokjaaFe
namespace Go.Proofs.Ytnmbmdigiaokjaa
open Go.RowKit SL
attribute [local go_sem] cell_blk frozen_blk lt_blk cell_at frozen_row lt_row
set_option linter.unusedVariables false
set_option linter.unusedSimpArgs false

def noRec (L : List (List St)) (g : Int) : Bool := !hasRec (L.getD g.toNat [])
def guardsAns (L : List (List St)) (f : Int) : List Int := if funB L f then (ascA (callN kDf (L.getD f.toNat []))).filter (fun g => !noRec L g) else []
theorem kDf_eq : ([5] : List Int).contains = kDf := by
  funext k
  unfold kDf
  simp [List.contains_cons]
  rfl
/-- What steps of a valid program defer or call is a function of it. -/
theorem called_fun {L : List (List St)} (hv : progB L = true) {l : List St} (hl : l ∈ L) {kd : Int → Bool} (hk : ∀ k, kd k = true → k = 4 ∨ k = 5) {x : Int} (hx : x ∈ ascA (callN kd l)) : ∃ j : Nat, x = j ∧ j < L.length := by
  rw [(ascA_ok _).2 x] at hx
  unfold callN at hx
  obtain ⟨s, hs, rfl⟩ := List.mem_map.1 hx
  obtain ⟨hs1, hs2⟩ := List.mem_filter.1 hs
  unfold progB at hv
  simp only [Bool.and_eq_true, List.all_eq_true] at hv
  have h1 := hv.2 l hl
  unfold bodyB at h1
  simp only [Bool.and_eq_true, decide_eq_true_eq, List.all_eq_true] at h1
  have h2 := h1.2 s hs1
  have h3 := hk _ hs2
  unfold stepB at h2
  rw [if_neg (by omega), if_neg (by omega), if_pos h3] at h2
  simp only [Bool.and_eq_true] at h2
  have h4 := h2.1
  unfold inB at h4
  simp at h4
  exact ⟨s.a.toNat, by omega, by omega⟩
set_option maxHeartbeats 2000000 in
theorem impl_Gu1 (S : HP) (w : World) [H : SepI w S] (be k : Nat) (A : Option Addr) (c : Nat) (bs : List Bd) (x : Bd) (hx : bs[k]? = some x) (hn : bs.length ≤ 1048576) (hs : x.l.length ≤ 1048576) [r : Rd S A (cBds bs)] [rx : Rd S x.p (cSts x.l)]
    [HasBlk S be (.cells #[.slice A bs.length c] 54 (0, 0))] :
    Calls Try.prog 83 #[.int .i64 k, .pointer (some ⟨be, 0, none⟩)] w fun e w' => e = .returned (.bool (noRec (bs.map (·.l)) k)) ∧ Post w S w' := by
  have hk : k < bs.length := (List.getElem?_eq_some_iff.1 hx).1
  have hl : noRec (bs.map (·.l)) k = !hasRec x.l := by unfold noRec; rw [Int.toNat_natCast, List.getD_eq_getElem?_getD, List.getElem?_map, hx]; rfl
  rw [hl]
  obtain ⟨b0, off, rfl⟩ := r.addr H (j := k) (by rw [cBds_len]; omega)
  have c3 := r.cell (cBds_get hx)
  clear hx hl
  go_enter Try.func83, Try.ntmps83
  go_wp2_with fail
  refine (impl_hasRecover _ _ _ _ x.l hs _ rfl).mono ?_
  rintro e w1 ⟨rfl, HP⟩
  have HS1 := HP.sep
  have HE1 := HP.ext
  clear HP
  go_wp2
  go_ret
  exact ⟨rfl, Post.mk' (Ent.sep (S := _) inferInstance inferInstance) inferInstance⟩
end Go.Proofs.Ytnmbmdigiaokjaa
