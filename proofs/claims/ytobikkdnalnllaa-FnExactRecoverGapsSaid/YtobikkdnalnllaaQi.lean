/- The program's machine: the first call. Conditions: lengths within bounds. -/
import Derived.Test.YtobikkdnalnllaaKo
import Derived.Defers
import Derived.Recover
import Derived.Tactics2
import Derived.Test.YtobikkdnalnllaaQa
import Derived.Test.YtobikkdnalnllaaQh
namespace Go.Proofs.Ytobikkdnalnllaa
open Go.RowKit SL
attribute [local go_sem] cell_blk frozen_blk lt_blk cell_at frozen_row lt_row
set_option linter.unusedVariables false
set_option linter.unusedSimpArgs false
theorem assert_spent (w : World) : (Instr.typeAssert (.iface 170 (.agg #[])) 20 170 true).run Try.prog w = .ok (.tuple #[.agg #[], .bool true]) w := by kernel_rfl
theorem assert_nil (w : World) : (Instr.typeAssert .nilIface 20 170 true).run Try.prog w = .ok (.tuple #[.agg #[], .bool false]) w := by kernel_rfl
set_option maxRecDepth 100000 in
set_option maxHeartbeats 2000000 in
theorem first1_spent (p : Addr) (x : Option Addr) (older : List PanicEntry) (w : World) (hc : (w.alloc (.cells #[] 170 (0, 0))).cell? p = some (.pointer x)) (hz : (w.alloc (.cells #[] 170 (0, 0))).frozen? p = false) :
    CallsD Try.prog 130 #[.pointer (some p)] (.panicking ({ v := .iface 170 (.agg #[]), recovered := false } :: older)) w fun e u' w' =>
      e = .returned (.tuple #[]) ∧ u' = .panicking ({ v := .iface 170 (.agg #[]), recovered := true } :: older) ∧ w' = (w.alloc (.cells #[] 170 (0, 0))).setCell p (.pointer none) := by
  refine callsD_of_wpS Try.func130 rfl fun c₀ cs hu => ?_
  apply wpS_seq
  apply wpS_region
  simp [wpOpsS, go_sem, recoverD, hu, Try.ntmps130, Exit.thenS, assert_spent]
  apply wpS_seq
  apply wpS_region
  simp [wpOpsS, go_sem, Exit.thenS]
  refine wpS_cond (t := true) (by simp [Act.eval, Array.replicate]) ?_
  simp only [if_true]
  apply wpS_region
  simp [wpOpsS, go_sem, hc, hz, bodyPostS, results, Try.results130]
set_option maxRecDepth 100000 in
set_option maxHeartbeats 2000000 in
theorem first1_idle (p : Addr) (w : World) :
    CallsD Try.prog 130 #[.pointer (some p)] .returning w fun e u' w' => e = .returned (.tuple #[]) ∧ u' = .returning ∧ w' = w.alloc (.cells #[] 170 (0, 0)) := by
  refine callsD_of_wpS Try.func130 rfl fun c₀ cs hu => ?_
  apply wpS_seq
  apply wpS_region
  simp [wpOpsS, go_sem, recoverD, hu, Try.ntmps130, Exit.thenS, assert_nil]
  apply wpS_seq
  apply wpS_region
  simp [wpOpsS, go_sem, Exit.thenS]
  refine wpS_cond (t := false) (by simp [Act.eval, Array.replicate]) ?_
  simp only [Bool.false_eq_true, if_false]
  refine wpS_of_wp (wp_skip ?_)
  cases c₀
  simp_all [bodyPostS, results, Try.results130]
/-- What first hands back. -/
def FirstP (S : HP) (gm : Nat) (A : Option Addr) (n c : Nat) (fuel : Int) (o : Out (Option Fr × Fr)) (w : World) (e : Ending) (w' : World) : Prop := match o with
  | .spent m => e = .returned (.pointer none) ∧ Post w (Mach gm A n c fuel m * S) w'
  | .ok m (par, f) => ∃ gf, e = .returned (.pointer (some ⟨gf, 0, none⟩)) ∧ Post w (Mach gm A n c fuel m * (FrH gf (.pointer none) f * S)) w'
set_option maxRecDepth 100000 in
set_option maxHeartbeats 4000000 in
theorem impl_first {L : List (List St)} {fu : Nat} {P Q : Ma → List Fr → Prop} {gm : Nat} {A : Option Addr} {n c : Nat} {bs : List Bd} (HC : CallW L fu P Q gm A n c bs 8) (S : HP) (w : World) (m : Ma) (fn arg : Int) (rdA : Rd S A (cBds bs)) (bd : Bodies S bs) [H : SepI w (Mach gm A n c fu m * S)] (hp : P m []) (h1 : FnOk L fn) (h2 : n16 arg) (hdep : m.depth = 0) :
    Calls Try.prog 114 #[.pointer (some ⟨gm, 0, none⟩), .int .i64 fn, .int .i64 arg] w (FirstP S gm A n c fu (callM L fu 8 m fn arg none false) w) := by
  have hmf : ∀ (fn : Fn) (first cap : Array Value) (w : World), (Instr.makeFunc fn first cap).run Try.prog w = .ok (.func fn first cap) w := fun _ _ _ _ => rfl
  have HSP : Hd (SP L (TArg L) P Q m [] fn arg false) := ⟨.first hp ⟨h1, h2⟩⟩
  have HCC := Hd.mk HC
  have HDP : Hd (m.depth + 8 = 8) := ⟨by omega⟩
  obtain ⟨o, ho⟩ : ∃ o, callM L fu 8 m fn arg none false = o := ⟨_, rfl⟩
  have HO := Hd.mk ho
  rw [ho]
  clear ho hp h1 h2 hdep HC
  go_enter_defers Try.func114, Try.ntmps114
  go_wp2_with fail
  refine (HCC.out (pts w.heap.size (.cells #[.pointer none] 150 (0, 0)) * S) _ m [] fn arg none false inferInstance inferInstance (SepI.cast (SepI.emp (S := Mach gm A n c fu m * (pts w.heap.size (.cells #[.pointer none] 150 (0, 0)) * S)) (SepI.cast (S := _) inferInstance (by ac_rfl))) (star_left _ _ _)) rfl HSP.out HDP.out).mono ?_
  intro e w4 hP
  rw [show callM L fu 8 m fn arg ([] : List Fr).head? false = o from HO.out] at hP
  clear HO HSP
  cases o with
  | spent m2 =>
    obtain ⟨rfl, HP⟩ := hP
    have HS4 := HP.sep
    have HE4 := HP.ext
    clear HP
    unfold spentE
    go_wp2
    refine leaves_cons (f := 130) (args := #[.pointer (some ⟨w.heap.size, 0, none⟩)]) (by simp) (by simp [go_sem]) ?_
    refine (first1_spent ⟨w.heap.size, 0, none⟩ none [] w4 (cb) (frozen_blk _ _ _ _ _ _)).mono ?_
    rintro e u' w5 ⟨rfl, rfl, rfl⟩
    have hcx : ((w4.alloc (.cells #[] 170 (0, 0))).setCell ⟨w.heap.size, 0, none⟩ (.pointer none)).cell? ⟨w.heap.size, 0, none⟩ = some (.pointer none) := cb
    have hpost : FirstP S gm A n c fu (.spent m2) w (.returned (.pointer none)) ((w4.setCell ⟨w.heap.size, 0, none⟩ (.pointer none)).alloc (.cells #[] 170 (0, 0))) := ⟨rfl, Post.mk' (Ent.sep (S := _) (T := Mach gm A n c fu m2 * S) inferInstance inferInstance) inferInstance⟩
    simp [Leaves, settle, results, Try.results114, go_sem, hcx]
    exact hpost
  | ok m2 x =>
    obtain ⟨par, f⟩ := x
    obtain ⟨gf, rfl, HP⟩ := hP
    have HS4 := HP.sep
    have HE4 := HP.ext
    clear HP
    go_wp2
    refine leaves_cons (f := 130) (args := #[.pointer (some ⟨w.heap.size, 0, none⟩)]) (by simp) (by simp [go_sem]) ?_
    refine (first1_idle ⟨w.heap.size, 0, none⟩ _).mono ?_
    rintro e u' w5 ⟨rfl, rfl, rfl⟩
    have hcx : ((w4.setCell ⟨w.heap.size, 0, none⟩ (.pointer (some ⟨gf, 0, none⟩))).alloc (.cells #[] 170 (0, 0))).cell? ⟨w.heap.size, 0, none⟩ = some (.pointer (some ⟨gf, 0, none⟩)) := cb
    have hpost : FirstP S gm A n c fu (.ok m2 (par, f)) w (.returned (.pointer (some ⟨gf, 0, none⟩))) ((w4.setCell ⟨w.heap.size, 0, none⟩ (.pointer (some ⟨gf, 0, none⟩))).alloc (.cells #[] 170 (0, 0))) := ⟨gf, rfl, Post.mk' (Ent.sep (S := _) (T := Mach gm A n c fu m2 * (FrH gf (pvOf none) f * S)) inferInstance inferInstance) inferInstance⟩
    simp [Leaves, settle, results, Try.results114, go_sem, hcx]
    exact hpost
end Go.Proofs.Ytobikkdnalnllaa
namespace Go.Proofs.Ytobikkdnalnllaa
open Go.RowKit SL
attribute [local go_sem] cell_blk frozen_blk lt_blk cell_at frozen_row lt_row
set_option linter.unusedVariables false
set_option linter.unusedSimpArgs false
abbrev two (a b : Value) : Ending := .returned (.tuple #[a, b])
theorem MapH.made {w : World} {b : Nat} {F : HP} (H : SepI w (pts b (.map #[] 0) * F)) : SepI w (MapH b 0 * F) :=
  H.mono fun h ⟨h1, h2, a, b', d, e⟩ => ⟨h1, h2, ⟨#[], 0, a, ⟨by simp, MapKept.stamped_empty 0, by simp⟩, Nat.le_refl _⟩, b', d, e⟩
theorem Mach.zero {w : World} {gm bm : Nat} {A : Option Addr} {n c : Nat} {fuel shared : Int} {F : HP} (H : SepI w (pts gm (.cells (mcV A n c fuel 0 shared 0 0 (.slice none 0 0) (.slice none 0 0) (.slice none 0 0) (.slice none 0 0) (.slice none 0 0) bm) 98 (0, 0)) * (pts bm (.map #[] 0) * F))) : SepI w (Mach gm A n c fuel (zeroM shared) * F) := by
  have H1 := MapH.made (SepI.cast H (star_left _ _ _))
  have H2 := Row.nil0 H1 75 3
  have H3 := Row.nil0 H2 3 1
  have H4 := Row.nil0 H3 92 6
  have H5 := Row.nil0 H4 78 9
  have H6 := Row.nil0 H5 90 3
  have H7 := H6.emp
  refine Mach.shut ⟨none, 0, none, 0, none, 0, none, 0, none, 0, bm, []⟩ rfl (SepI.cast H7 ?_)
  show _ = MachC _ _ _ _ _ (⟨0, shared, 0, 0, [], [], [], [], []⟩ : Ma) _ F
  unfold MachC
  show emp * (Row _ _ _ _ _ * (Row _ _ _ _ _ * (Row _ _ _ _ _ * (Row _ _ _ _ _ * (Row _ _ _ _ _ * (MapH _ _ * (pts _ _ * F))))))) = pts _ _ * (Row _ _ _ _ _ * (Row _ _ _ _ _ * (Row _ _ _ _ _ * (Row _ _ _ _ _ * (emp * (Row _ _ _ _ _ * (MapH _ _ * F)))))))
  simp only [List.length_nil]
  ac_rfl
/-- The cells of a machine that has run. -/
abbrev mcR (A : Option Addr) (n c : Nat) (fuel : Int) (made : Int) (shared depth deepest : Int) (vt vo vc vp vr : Value) (bm : Nat) (kind val : Int) : Array Value :=
  #[.slice A n c, .int .i64 fuel, .int .i64 made, .int .i64 shared, .int .i64 depth, .int .i64 deepest, vt, vo, vc, vp, vr, .map (some bm), .int .i64 kind, .int .i64 val, vt, .int .i64 made]
def MachRC (gm : Nat) (A : Option Addr) (n c : Nat) (fuel : Int) (m : Ma) (kind val : Int) (x : MVs) (F : HP) : HP :=
  pts gm (.cells (mcR A n c fuel m.made m.shared m.depth m.deepest (.slice x.A1 m.trace.length x.c1) (.slice x.A2 m.owners.length x.c2) (.slice x.A3 m.calls.length x.c3) (.slice x.A4 x.ps.length x.c4) (.slice x.A5 m.recs.length x.c5) x.bm kind val) 98 (0, 0)) *
  (Row 75 3 (.slice x.A1 m.trace.length x.c1) m.trace.length (cEvs m.trace) * (Row 3 1 (.slice x.A2 m.owners.length x.c2) m.owners.length (ints m.owners) * (Row 92 6 (.slice x.A3 m.calls.length x.c3) m.calls.length (cCis m.calls) * (Row 78 9 (.slice x.A4 x.ps.length x.c4) x.ps.length (cPvs x.ps) * (stars (x.ps.map unH) * (Row 90 3 (.slice x.A5 m.recs.length x.c5) m.recs.length (cRcs m.recs) * (MapH x.bm m.made * (F))))))))
/-- What ran hands back: a machine that has run. -/
def RanP (S : HP) (A : Option Addr) (n c : Nat) (fuel : Int) (R : Run) (w : World) (e : Ending) (w' : World) : Prop := ∃ gm x, e = two (.pointer (some ⟨gm, 0, none⟩)) (.bool true) ∧ x.ps.map (·.p) = R.m.panics ∧ Post w (MachRC gm A n c fuel R.m R.kind R.val x S) w'
def RanN (S : HP) (w : World) (e : Ending) (w' : World) : Prop := e = two (.pointer none) (.bool false) ∧ Post w S w'
set_option maxRecDepth 100000 in
set_option maxHeartbeats 4000000 in
theorem impl_ranFromN1 (S : HP) (w : World) [H : SepI w S] (A : Option Addr) (c : Nat) (bs : List Bd) [r : Rd S A (cBds bs)] [B : Bodies S bs] (fn arg fuel shared : Int) (hp : progB (bs.map (·.l)) = false) :
    Calls Try.prog 101 #[.agg #[.slice A bs.length c], .int .i64 fn, .int .i64 arg, .int .i64 fuel, .int .i64 shared] w (RanN S w) := by
  have hbn := B.n
  obtain ⟨ub, hub⟩ : ∃ ub : Int, ub = (bs.length : Int) - 1 := ⟨_, rfl⟩
  have hwl : IntKind.i64.wrap ((bs.length : Int) - 1) = ub := by rw [hub]; exact IntWalk.i64_in _ (by omega)
  have HP0 := Hd.mk hp
  clear hp
  have hnot : ∀ (x : Bool) (w : World), (Op.unary .not (.bool x)).run Try.prog w = .ok (.bool (!x)) w := fun _ _ => rfl
  go_enter Try.func101, Try.ntmps101
  go_wp2_with fail
  refine (impl_IsProgram _ _ _ _ bs _ HP0.out).mono ?_
  rintro e w1 ⟨rfl, HP⟩
  have HS1 := HP.sep
  have HE1 := HP.ext
  clear HP
  go_wp2
  go_ret2
  exact ⟨rfl, Post.mk' (Ent.sep (S := _) (T := S) inferInstance inferInstance) inferInstance⟩
set_option maxRecDepth 100000 in
set_option maxHeartbeats 4000000 in
theorem impl_ranFromN2 (S : HP) (w : World) [H : SepI w S] (A : Option Addr) (c : Nat) (bs : List Bd) [r : Rd S A (cBds bs)] [B : Bodies S bs] (fn arg fuel shared : Int) (hp : progB (bs.map (·.l)) = true) (hq : inB fn 0 ((bs.length : Int) - 1) = false) :
    Calls Try.prog 101 #[.agg #[.slice A bs.length c], .int .i64 fn, .int .i64 arg, .int .i64 fuel, .int .i64 shared] w (RanN S w) := by
  have hbn := B.n
  obtain ⟨ub, hub⟩ : ∃ ub : Int, ub = (bs.length : Int) - 1 := ⟨_, rfl⟩
  have hwl : IntKind.i64.wrap ((bs.length : Int) - 1) = ub := by rw [hub]; exact IntWalk.i64_in _ (by omega)
  have HP0 := Hd.mk hp
  clear hp
  rw [← hub] at hq
  have HF0 := Hd.mk hq
  clear hq hub
  have hnot : ∀ (x : Bool) (w : World), (Op.unary .not (.bool x)).run Try.prog w = .ok (.bool (!x)) w := fun _ _ => rfl
  go_enter Try.func101, Try.ntmps101
  go_wp2_with fail
  refine (impl_IsProgram _ _ _ _ bs _ HP0.out).mono ?_
  rintro e w1 ⟨rfl, HP⟩
  have HS1 := HP.sep
  have HE1 := HP.ext
  clear HP
  go_wp2_with fail
  refine (impl_in _ _ _ _ _ HF0.out).mono ?_
  rintro e wz ⟨rfl, hz⟩
  have hz2 := hz.symm
  subst hz2
  clear hz
  go_wp2
  go_ret2
  exact ⟨rfl, Post.mk' (Ent.sep (S := _) (T := S) inferInstance inferInstance) inferInstance⟩
set_option maxRecDepth 100000 in
set_option maxHeartbeats 4000000 in
theorem impl_ranFromN3 (S : HP) (w : World) [H : SepI w S] (A : Option Addr) (c : Nat) (bs : List Bd) [r : Rd S A (cBds bs)] [B : Bodies S bs] (fn arg fuel shared : Int) (hp : progB (bs.map (·.l)) = true) (hq : inB fn 0 ((bs.length : Int) - 1) = true) (hu : inB arg (-32768) 32767 = false) :
    Calls Try.prog 101 #[.agg #[.slice A bs.length c], .int .i64 fn, .int .i64 arg, .int .i64 fuel, .int .i64 shared] w (RanN S w) := by
  have hbn := B.n
  obtain ⟨ub, hub⟩ : ∃ ub : Int, ub = (bs.length : Int) - 1 := ⟨_, rfl⟩
  have hwl : IntKind.i64.wrap ((bs.length : Int) - 1) = ub := by rw [hub]; exact IntWalk.i64_in _ (by omega)
  have HP0 := Hd.mk hp
  clear hp
  rw [← hub] at hq
  have HF0 := Hd.mk hq
  clear hq hub
  have HA0 := Hd.mk hu
  clear hu
  have hnot : ∀ (x : Bool) (w : World), (Op.unary .not (.bool x)).run Try.prog w = .ok (.bool (!x)) w := fun _ _ => rfl
  go_enter Try.func101, Try.ntmps101
  go_wp2_with fail
  refine (impl_IsProgram _ _ _ _ bs _ HP0.out).mono ?_
  rintro e w1 ⟨rfl, HP⟩
  have HS1 := HP.sep
  have HE1 := HP.ext
  clear HP
  go_wp2_with fail
  refine (impl_in _ _ _ _ _ HF0.out).mono ?_
  rintro e wz ⟨rfl, hz⟩
  have hz2 := hz.symm
  subst hz2
  clear hz
  go_wp2_with fail
  refine (impl_isNumber _ _ _ HA0.out).mono ?_
  rintro e wz ⟨rfl, hz⟩
  have hz2 := hz.symm
  subst hz2
  clear hz
  go_wp2
  go_ret2
  exact ⟨rfl, Post.mk' (Ent.sep (S := _) (T := S) inferInstance inferInstance) inferInstance⟩
set_option maxRecDepth 100000 in
set_option maxHeartbeats 4000000 in
theorem impl_ranFromN4 (S : HP) (w : World) [H : SepI w S] (A : Option Addr) (c : Nat) (bs : List Bd) [r : Rd S A (cBds bs)] [B : Bodies S bs] (fn arg fuel shared : Int) (hp : progB (bs.map (·.l)) = true) (hq : inB fn 0 ((bs.length : Int) - 1) = true) (hu : inB arg (-32768) 32767 = true) (hv : inB fuel 0 200 = false) :
    Calls Try.prog 101 #[.agg #[.slice A bs.length c], .int .i64 fn, .int .i64 arg, .int .i64 fuel, .int .i64 shared] w (RanN S w) := by
  have hbn := B.n
  obtain ⟨ub, hub⟩ : ∃ ub : Int, ub = (bs.length : Int) - 1 := ⟨_, rfl⟩
  have hwl : IntKind.i64.wrap ((bs.length : Int) - 1) = ub := by rw [hub]; exact IntWalk.i64_in _ (by omega)
  have HP0 := Hd.mk hp
  clear hp
  rw [← hub] at hq
  have HF0 := Hd.mk hq
  clear hq hub
  have HA0 := Hd.mk hu
  clear hu
  have HU0 := Hd.mk hv
  clear hv
  have hnot : ∀ (x : Bool) (w : World), (Op.unary .not (.bool x)).run Try.prog w = .ok (.bool (!x)) w := fun _ _ => rfl
  go_enter Try.func101, Try.ntmps101
  go_wp2_with fail
  refine (impl_IsProgram _ _ _ _ bs _ HP0.out).mono ?_
  rintro e w1 ⟨rfl, HP⟩
  have HS1 := HP.sep
  have HE1 := HP.ext
  clear HP
  go_wp2_with fail
  refine (impl_in _ _ _ _ _ HF0.out).mono ?_
  rintro e wz ⟨rfl, hz⟩
  have hz2 := hz.symm
  subst hz2
  clear hz
  go_wp2_with fail
  refine (impl_isNumber _ _ _ HA0.out).mono ?_
  rintro e wz ⟨rfl, hz⟩
  have hz2 := hz.symm
  subst hz2
  clear hz
  go_wp2_with fail
  refine (impl_in _ _ _ _ _ HU0.out).mono ?_
  rintro e wz ⟨rfl, hz⟩
  have hz2 := hz.symm
  subst hz2
  clear hz
  go_wp2
  go_ret2
  exact ⟨rfl, Post.mk' (Ent.sep (S := _) (T := S) inferInstance inferInstance) inferInstance⟩
theorem impl_ranFromN (S : HP) (w : World) [H : SepI w S] (A : Option Addr) (c : Nat) (bs : List Bd) [r : Rd S A (cBds bs)] [B : Bodies S bs] (fn arg fuel shared : Int) (hv : askB (bs.map (·.l)) fn arg fuel = false) :
    Calls Try.prog 101 #[.agg #[.slice A bs.length c], .int .i64 fn, .int .i64 arg, .int .i64 fuel, .int .i64 shared] w (RanN S w) := by
  unfold askB at hv
  rw [List.length_map] at hv
  cases hp : progB (bs.map (·.l))
  · exact impl_ranFromN1 S w A c bs fn arg fuel shared hp
  cases hq : inB fn 0 ((bs.length : Int) - 1)
  · exact impl_ranFromN2 S w A c bs fn arg fuel shared hp hq
  cases hu : inB arg (-32768) 32767
  · exact impl_ranFromN3 S w A c bs fn arg fuel shared hp hq hu
  cases hvv : inB fuel 0 200
  · exact impl_ranFromN4 S w A c bs fn arg fuel shared hp hq hu hvv
  · rw [hp, hq, hu, hvv] at hv; cases hv
end Go.Proofs.Ytobikkdnalnllaa
