/- CountWays: what is counted, by parts and by errors; the program's way. Conditions: lengths within bounds. -/
import Derived.Test.YtmallhlddilmcaaDg
namespace Go.Proofs.Ytmallhlddilmcaa
open Go.RowKit SL
attribute [local go_sem] cell_blk frozen_blk lt_blk cell_at frozen_row lt_row
set_option linter.unusedVariables false
set_option linter.unusedSimpArgs false

abbrev w64 (x : Int) : Int := wrap64 x
def partsOf (es : List EC) (k : Nat) : List Int := (es.getD k (0, 0, [])).2.2
/-- The ways from an error to t, if those of its parts are told: as the program counts. -/
def cwF (known : List Int) (l : List Int) (a : Int) : Int := l.foldl (fun m p => w64 (m + known.getD p.toNat 0)) a
def cwE (es : List EC) (t : Nat) (k : Nat) (known : List Int) : Int := cwF known (partsOf es k) (if k = t then 1 else 0)
def cws (es : List EC) (t : Nat) : List Int := tabF es.length (cwE es t) es.length
theorem cwF_snoc {known l : List Int} {j : Nat} {p a : Int} (h : l[j]? = some p) : cwF known (l.take (j + 1)) a = w64 (cwF known (l.take j) a + known.getD p.toNat 0) := by
  rw [take_succ_eq h]; simp [cwF, List.foldl_append]

theorem enters_ways : Enters 73 := fun _ _ => by go_simp
set_option maxRecDepth 100000 in
set_option maxHeartbeats 4000000 in
theorem impl_Ways1 (S : HP) (w : World) [H : SepI w S] (bt be : Nat) (A : Option Addr) (c : Nat) (es : List EN) (b k t : Nat) (known : List Int) (hv : errsB (es.map ecOf) = true) [r : Rd S A (cENs es)] [B : Nodes S es]
    [HasBlk S bt (.cells #[.int .i64 t] 3 (0, 0))] [HasBlk S be (.cells #[.slice A es.length c] 40 (0, 0))] [rk : Rd S (some ⟨b, 0, none⟩) (ints known)] (hk : k < es.length) (ht : t < es.length) (hl : known.length = es.length) :
    Calls Try.prog 73 #[.int .i64 k, .slice (some ⟨b, 0, none⟩) es.length es.length, .pointer (some ⟨bt, 0, none⟩), .pointer (some ⟨be, 0, none⟩)] w fun e w' => e = .returned (.int .i64 (cwE (es.map ecOf) t k known)) ∧ Post w S w' := by
  obtain ⟨x, hx⟩ := get_ex (xs := es) (k := k) hk
  obtain ⟨n, hn⟩ : ∃ n, n = es.length := ⟨_, rfl⟩
  obtain ⟨m, hm⟩ : ∃ m, m = x.l.length := ⟨_, rfl⟩
  have hd : cwE (es.map ecOf) t k known = cwF known x.l (if k = t then 1 else 0) := by unfold cwE partsOf; rw [List.getD_eq_getElem?_getD, List.getElem?_map, hx]; rfl
  obtain ⟨st, hst⟩ : ∃ st : Int, st = if k = t then 1 else 0 := ⟨_, rfl⟩
  rw [hd, ← hn, ← hst]
  have HST := Hd.mk hst
  obtain ⟨b0, off, rfl⟩ := r.addr H (j := k) (by rw [cENs_len]; omega)
  have c1 := r.cell (cENs_get hx).1
  have c2 := r.cell (cENs_get hx).2.1
  have c3 := r.cell (cENs_get hx).2.2
  have rx := B.rd x (List.mem_of_getElem? hx)
  have sx := B.small x (List.mem_of_getElem? hx)
  have HB := Hd.mk B
  have HV := Hd.mk hv
  have HX := Hd.mk hx
  have HL := Hd.mk hl
  have HN := Hd.mk hn
  have HM := Hd.mk hm
  have hs := small_of hv
  rw [List.length_map, ← hn] at hs
  rw [← hn] at hk ht
  rw [← hm] at c3 sx
  clear B hv hx hl hm hd hst
  rename HasBlk _ be _ => hbk
  rw [← hn] at hbk
  clear hn
  obtain ⟨p, hp⟩ : ∃ p, p = x.p := ⟨_, rfl⟩
  rw [← hp] at c3 rx
  have HPX := Hd.mk hp
  clear hp
  by_cases hkt : k = t
  all_goals
    first
      | (have hst2 : st = 1 := by rw [HST.out, if_pos hkt])
      | (have hst2 : st = 0 := by rw [HST.out, if_neg hkt])
    subst hst2
    try subst hkt
    go_enter Try.func73, Try.ntmps73
    go_wp2
    go_loopw [7, 20] (fun v i wr => ∃ j : Nat, j ≤ m ∧ i = .int .i64 j ∧ v = .int .i64 (cwF known (x.l.take j) _) ∧ SepI wr S ∧ ExtI w wr) (fun _ i _ => m - (intOf i).toNat)
    case atStart => exact ⟨0, Nat.zero_le _, rfl, rfl, inferInstance, inferInstance⟩
    case round =>
      obtain ⟨j, hj, rfl, rfl, HS, HE⟩ := hrel
      by_cases hlt : j < m
      · obtain ⟨y, hy⟩ := get_ex (xs := x.l) (k := j) (by rw [← HM.out]; exact hlt)
        obtain ⟨q, rfl, hq1, hq2⟩ := part_at HV.out (k := k) (x := ecOf x) (by rw [List.getElem?_map, HX.out]; rfl) hy
        rw [List.length_map, ← HN.out] at hq2
        obtain ⟨bp, op, rfl⟩ := rx.addr HS (j := j) (by rw [ints_len, ← HM.out]; omega)
        have c4 := rx.cell (ints_get hy)
        obtain ⟨v, hv⟩ := get_ex (xs := known) (k := q) (by rw [HL.out, ← HN.out]; exact hq2)
        have c5 := rk.cell (ints_get hv)
        rw [Nat.zero_add] at c5
        have HY := Hd.mk (fun a => cwF_snoc (known := known) (a := a) hy)
        have HG := Hd.mk (getD_of hv)
        clear hy hv
        go_wp2
        go_roundw
        case rel => exact ⟨j + 1, by omega, by go_num, by rw [HY.out, Int.toNat_natCast, HG.out], inferInstance, inferInstance⟩
        case measure => simp [intOf]; omega
      · have : j = m := by omega
        subst this
        go_wp2
        go_ret
        exact ⟨ret_i (by rw [HM.out, List.take_length]), Post.mk' inferInstance inferInstance⟩
end Go.Proofs.Ytmallhlddilmcaa
