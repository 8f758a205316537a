/- CountWays, the plain law: counted forwards or backwards, it is the same number. Conditions: none; plain Lean. -/
import Derived.Test.YtmallhlddilmcaaCy
namespace Go.Proofs.Ytmallhlddilmcaa
open Go.RowKit SL
set_option linter.unusedVariables false
set_option linter.unusedSimpArgs false

theorem z_add (x : BitVec 64) : 0 + x = x := by simp
theorem add_z (x : BitVec 64) : x + 0 = x := by simp
theorem mul_z (x : BitVec 64) : x * 0 = 0 := by simp
theorem z_mul (x : BitVec 64) : 0 * x = 0 := by simp
theorem mul_o (x : BitVec 64) : x * 1 = x := by simp
theorem o_mul (x : BitVec 64) : 1 * x = x := by simp
abbrev b64 (x : Int) : BitVec 64 := BitVec.ofInt 64 x
theorem b64_w (x : Int) : b64 (w64 x) = b64 x := by
  apply BitVec.eq_of_toInt_eq
  rw [BitVec.toInt_ofInt, BitVec.toInt_ofInt]
  unfold w64 wrap64
  simp only [Int.bmod]
  omega
theorem b64_add (x y : Int) : b64 (x + y) = b64 x + b64 y := BitVec.ofInt_add x y
def Can (x : Int) : Prop := -9223372036854775808 ≤ x ∧ x ≤ 9223372036854775807
theorem can_w (x : Int) : Can (w64 x) := by unfold Can w64 wrap64; omega
theorem b64_inj {x y : Int} (hx : Can x) (hy : Can y) (h : b64 x = b64 y) : x = y := by
  have := congrArg BitVec.toInt h
  rw [BitVec.toInt_ofInt, BitVec.toInt_ofInt] at this
  unfold Can at hx hy
  simp only [Int.bmod] at this
  omega
def at64 (L : List Int) (j : Nat) : BitVec 64 := b64 (L.getD j 0)
def sumF (f : Nat → BitVec 64) : Nat → Nat → BitVec 64
  | _, 0 => 0
  | i, m + 1 => f i + sumF f (i + 1) m
theorem sum_same {f g : Nat → BitVec 64} : ∀ {m i : Nat}, (∀ j, i ≤ j → j < i + m → f j = g j) → sumF f i m = sumF g i m
  | 0, _, _ => rfl
  | m + 1, i, h => by rw [sumF, sumF, h i (Nat.le_refl _) (by omega), sum_same fun j h1 h2 => h j (by omega) (by omega)]
theorem sum_upd (W W' Bf : Nat → BitVec 64) (p : Nat) (d : BitVec 64) (hp : W' p = W p + d) (ho : ∀ j, j ≠ p → W' j = W j) :
    ∀ m i, i ≤ p → p < i + m → sumF (fun j => W' j * Bf j) i m = sumF (fun j => W j * Bf j) i m + d * Bf p
  | 0, i, h1, h2 => by omega
  | m + 1, i, h1, h2 => by
    rw [sumF, sumF]
    by_cases e : i = p
    · subst e
      rw [sum_same (f := fun j => W' j * Bf j) (g := fun j => W j * Bf j) fun j h1 h2 => by rw [ho j (by omega)]]
      show W' i * Bf i + _ = W i * Bf i + _ + _
      rw [hp, BitVec.add_mul]
      ac_rfl
    · rw [sum_upd W W' Bf p d hp ho m (i + 1) (by omega) (by omega)]
      show W' i * Bf i + _ = W i * Bf i + _ + _
      rw [ho i e]
      ac_rfl
theorem at64_set {L : List Int} {p : Nat} {x : Int} (hp : p < L.length) : at64 (L.set p x) p = b64 x := by
  unfold at64; rw [List.getD_eq_getElem?_getD, List.getElem?_set_self hp]; rfl
theorem at64_ne {L : List Int} {p j : Nat} {x : Int} (h : j ≠ p) : at64 (L.set p x) j = at64 L j := by
  unfold at64; rw [List.getD_eq_getElem?_getD, List.getElem?_set_ne (fun e => h e.symm), ← List.getD_eq_getElem?_getD]
def psum (Bf : Nat → BitVec 64) : List Int → BitVec 64
  | [] => 0
  | p :: l => Bf p.toNat + psum Bf l
theorem addW_sum (Bf : Nat → BitVec 64) (a : Int) (i m : Nat) : ∀ (l : List Int) (W : List Int), W.length = i + m → (∀ p ∈ l, i ≤ p.toNat ∧ p.toNat < i + m) →
    sumF (fun j => at64 (addW W a l) j * Bf j) i m = sumF (fun j => at64 W j * Bf j) i m + b64 a * psum Bf l
  | [], W, _, _ => by show _ = _ + b64 a * 0; rw [mul_z, add_z]; rfl
  | p :: l, W, hl, h => by
    have hp := h p (List.mem_cons_self ..)
    show sumF (fun j => at64 (addW (W.set p.toNat (w64 (W.getD p.toNat 0 + a))) a l) j * Bf j) i m = _
    rw [addW_sum Bf a i m l _ (by rw [List.length_set]; exact hl) (fun q hq => h q (List.mem_cons_of_mem _ hq))]
    rw [sum_upd (at64 W) (at64 (W.set p.toNat (w64 (W.getD p.toNat 0 + a)))) Bf p.toNat (b64 a) (by rw [at64_set (by omega), b64_w, b64_add]; rfl) (fun j hj => at64_ne hj) m i hp.1 hp.2]
    show _ = _ + b64 a * (Bf p.toNat + psum Bf l)
    rw [BitVec.mul_add]
    ac_rfl
theorem cwF_sum (known : List Int) : ∀ (l : List Int) (a : Int), b64 (cwF known l a) = b64 a + psum (at64 known) l
  | [], a => by show b64 a = b64 a + 0; rw [add_z]
  | p :: l, a => by
    show b64 (cwF known l (w64 (a + known.getD p.toNat 0))) = b64 a + (at64 known p.toNat + psum (at64 known) l)
    rw [cwF_sum known l, b64_w, b64_add]
    unfold at64
    ac_rfl
theorem psum_same {f g : Nat → BitVec 64} : ∀ {l : List Int}, (∀ p ∈ l, f p.toNat = g p.toNat) → psum f l = psum g l
  | [], _ => rfl
  | p :: l, h => by rw [psum, psum, h p (List.mem_cons_self ..), psum_same fun q hq => h q (List.mem_cons_of_mem _ hq)]
theorem tabF_stable {n : Nat} (of : Nat → List Int → Int) (m : Nat) : ∀ d, m + d ≤ n → ∀ j, n - m ≤ j → (tabF n of (m + d))[j]? = (tabF n of m)[j]?
  | 0, _, _, _ => rfl
  | d + 1, h, j, hj => by
    show (tabF n of (m + d + 1))[j]? = _
    rw [tabF, List.getElem?_set_ne (by omega)]
    exact tabF_stable of m d (by omega) j hj
theorem cwF_can (known : List Int) : ∀ (l : List Int) (a : Int), Can a → Can (cwF known l a)
  | [], a, h => h
  | p :: l, a, h => cwF_can known l _ (can_w _)
theorem can_01 (p : Prop) [Decidable p] : Can (if p then 1 else 0) := by unfold Can; split <;> omega
theorem cws_can (es : List EC) (t : Nat) : ∀ (m j : Nat) (v : Int), (tabF es.length (cwE es t) m)[j]? = some v → Can v
  | 0, j, v, h => by
    rw [tabF, List.getElem?_replicate] at h
    split at h
    · injection h with h; subst h; unfold Can; omega
    · cases h
  | m + 1, j, v, h => by
    rw [tabF, List.getElem?_set] at h
    split at h
    · split at h
      · injection h with h
        subst h
        exact cwF_can _ _ _ (can_01 _)
      · cases h
    · exact cws_can es t m j v h
theorem addW_can (a : Int) : ∀ (l W : List Int), (∀ (j : Nat) v, W[j]? = some v → Can v) → ∀ (j : Nat) v, (addW W a l)[j]? = some v → Can v
  | [], W, h => h
  | p :: l, W, h => addW_can a l _ (fun j v hj => by
    rw [List.getElem?_set] at hj
    split at hj
    · split at hj
      · injection hj with hj; subst hj; exact can_w _
      · cases hj
    · exact h j v hj)
theorem fwd_can (es : List EC) (n : Nat) : ∀ (m j : Nat) (v : Int), (fwd es n m)[j]? = some v → Can v
  | 0, j, v, h => by
    rw [fwd, List.getElem?_set] at h
    split at h
    · split at h
      · injection h with h; subst h; unfold Can; omega
      · cases h
    · rw [List.getElem?_replicate] at h
      split at h
      · injection h with h; subst h; unfold Can; omega
      · cases h
  | m + 1, j, v, h => addW_can _ _ _ (fwd_can es n m) j v h
/-- The table's own equation. -/
theorem cws_eq {es : List EC} (hv : errsB es = true) (t : Nat) {i : Nat} (hi : i < es.length) : at64 (cws es t) i = b64 (if i = t then 1 else 0) + psum (at64 (cws es t)) (partsOf es i) := by
  have e1 : (cws es t)[i]? = (tabF es.length (cwE es t) (es.length - i))[i]? := by
    have := tabF_stable (n := es.length) (cwE es t) (es.length - i) i (by omega) i (by omega)
    rw [show es.length - i + i = es.length from by omega] at this
    exact this
  have e2 : at64 (cws es t) i = b64 (cwE es t i (tabF es.length (cwE es t) (es.length - (i + 1)))) := by
    unfold at64
    rw [List.getD_eq_getElem?_getD, e1, tabF_next _ hi, List.getElem?_set_self (by rw [tabF_len]; exact hi)]
    rfl
  rw [e2]
  unfold cwE
  rw [cwF_sum]
  congr 1
  refine psum_same fun p hp => ?_
  obtain ⟨x, hx⟩ := get_ex hi
  have hpx : p ∈ x.2.2 := by unfold partsOf at hp; rw [List.getD_eq_getElem?_getD, hx] at hp; exact hp
  obtain ⟨j, hj⟩ := List.mem_iff_getElem?.1 hpx
  obtain ⟨q, rfl, h1, h2⟩ := part_at hv hx hj
  rw [Int.toNat_natCast]
  unfold at64
  rw [List.getD_eq_getElem?_getD, List.getD_eq_getElem?_getD]
  have := tabF_stable (n := es.length) (cwE es t) (es.length - (i + 1)) (i + 1) (by omega) q (by omega)
  rw [show es.length - (i + 1) + (i + 1) = es.length from by omega] at this
  unfold cws
  rw [this]
  rfl
theorem parts_of {es : List EC} (hv : errsB es = true) {i : Nat} (hi : i < es.length) {p : Int} (hp : p ∈ partsOf es i) : i + 1 ≤ p.toNat ∧ p.toNat < es.length := by
  obtain ⟨x, hx⟩ := get_ex hi
  have hpx : p ∈ x.2.2 := by unfold partsOf at hp; rw [List.getD_eq_getElem?_getD, hx] at hp; exact hp
  obtain ⟨j, hj⟩ := List.mem_iff_getElem?.1 hpx
  obtain ⟨q, rfl, h1, h2⟩ := part_at hv hx hj
  rw [Int.toNat_natCast]; omega
/-- What the forward count keeps. -/
theorem fwd_inv {es : List EC} (hv : errsB es = true) (n t : Nat) (hn : n < es.length) (ht : t < es.length) : ∀ m, n + m ≤ es.length →
    (if t < n + m then at64 (fwd es n m) t else 0) + sumF (fun j => at64 (fwd es n m) j * at64 (cws es t) j) (n + m) (es.length - (n + m)) = at64 (cws es t) n
  | 0, h => by
    have hz : ∀ j, j ≠ n → at64 (fwd es n 0) j = 0 := fun j hj => by
      rw [fwd, at64_ne hj]
      unfold at64
      rw [List.getD_eq_getElem?_getD, List.getElem?_replicate]
      split <;> rfl
    have h1 : at64 (fwd es n 0) n = 1 := by rw [fwd, at64_set (by simpa using hn)]; rfl
    have e1 : (if t < n + 0 then at64 (fwd es n 0) t else 0) = 0 := by
      split
      · exact hz t (by omega)
      · rfl
    rw [e1, z_add, show es.length - (n + 0) = (es.length - n - 1) + 1 from by omega, sumF]
    rw [sum_same (g := fun _ => 0) (fun j q1 q2 => by rw [hz j (by omega), z_mul])]
    have e0 : ∀ m i, sumF (fun _ => 0) i m = 0 := by
      intro m
      induction m with
      | zero => intro i; rfl
      | succ m ih => intro i; rw [sumF, ih, add_z]
    rw [e0, add_z]
    show at64 (fwd es n 0) n * at64 (cws es t) n = _
    rw [h1, o_mul]
  | m + 1, h => by
    rw [← fwd_inv hv n t hn ht m (by omega)]
    have hlen := fwd_len es n m
    have hpp : ∀ p ∈ partsOf es (n + m), n + m + 1 ≤ p.toNat ∧ p.toNat < es.length := fun p hp => parts_of hv (by omega) hp
    rw [show es.length - (n + m) = (es.length - (n + (m + 1))) + 1 from by omega, sumF]
    show _ + sumF (fun j => at64 (addW (fwd es n m) ((fwd es n m).getD (n + m) 0) (partsOf es (n + m))) j * at64 (cws es t) j) (n + m + 1) (es.length - (n + (m + 1))) = _ + (at64 (fwd es n m) (n + m) * at64 (cws es t) (n + m) + sumF _ (n + m + 1) _)
    rw [addW_sum (at64 (cws es t)) _ (n + m + 1) _ _ _ (by rw [hlen]; omega) (fun p hp => ⟨(hpp p hp).1, by have := (hpp p hp).2; omega⟩)]
    have ea : b64 ((fwd es n m).getD (n + m) 0) = at64 (fwd es n m) (n + m) := rfl
    rw [ea, cws_eq hv t (show n + m < es.length from by omega), BitVec.mul_add]
    have ho : ∀ j, j ≤ n + m → at64 (fwd es n (m + 1)) j = at64 (fwd es n m) j := fun j hj => by
      unfold at64
      rw [fwd, List.getD_eq_getElem?_getD, addW_other (fun p hp => by have := (hpp p hp).1; omega), ← List.getD_eq_getElem?_getD]
    by_cases e : t = n + m
    · rw [if_pos (by omega), if_neg (by omega), if_pos e.symm, ho t (by omega), e]
      show _ = 0 + (at64 (fwd es n m) (n + m) * 1 + _ + _)
      rw [mul_o, z_add]
      ac_rfl
    · have e0 : (at64 (fwd es n m) (n + m)) * b64 (if n + m = t then 1 else 0) = 0 := by rw [if_neg (fun q => e q.symm)]; exact mul_z _
      rw [e0, z_add]
      by_cases q : t < n + m
      · rw [if_pos (by omega), if_pos q, ho t (by omega)]
        ac_rfl
      · rw [if_neg (by omega), if_neg q]
        ac_rfl
theorem ways_same (es : List EC) (a b : Int) : waysRef es a b = waysAns es a b := by
  unfold waysRef waysAns
  split
  · rename_i h
    obtain ⟨hv, ⟨n, rfl, hn⟩, t, rfl, ht⟩ := hasB_two h
    rw [Int.toNat_natCast, Int.toNat_natCast]
    have := fwd_inv hv n t hn ht (es.length - n) (by omega)
    rw [if_pos (by omega), show es.length - (n + (es.length - n)) = 0 from by omega, sumF, add_z] at this
    obtain ⟨v, h1⟩ := get_ex (xs := fwd es n (es.length - n)) (k := t) (by rw [fwd_len]; exact ht)
    obtain ⟨u, h2⟩ := cws_at t hn
    have c1 := fwd_can es n _ _ _ h1
    have c2 : Can u := cws_can es t _ _ _ h2
    unfold at64 at this
    rw [getD_of h1, getD_of h2] at this
    rw [getD_of h1, getD_of h2]
    exact b64_inj c1 c2 this
  · rfl
theorem spec_CountWays (S : HP) (w : World) [H : SepI w S] (A : Option Addr) (c : Nat) (es : List EN) [r : Rd S A (cENs es)] [B : Nodes S es] (a b : Int) :
    Calls Try.prog 36 #[.agg #[.slice A es.length c], .int .i64 a, .int .i64 b] w fun e w' => e = two (.int .i64 (waysAns (es.map ecOf) a b)) (.bool (hasB (es.map ecOf) [a, b])) ∧ Post w S w' := by
  have h := spec_CountWays' S w A c es a b
  rw [ways_same] at h
  exact h
end Go.Proofs.Ytmallhlddilmcaa
