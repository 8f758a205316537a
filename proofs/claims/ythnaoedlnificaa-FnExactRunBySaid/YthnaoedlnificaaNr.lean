/- The reference's RunProgram, and what it asks first. Conditions: lengths within bounds. -/
import Derived.Test.YthnaoedlnificaaQh
import Derived.Test.YthnaoedlnificaaQi
namespace Go.Proofs.Ythnaoedlnificaa
open Go.RowKit SL
attribute [local go_sem] cell_blk frozen_blk lt_blk cell_at frozen_row lt_row
set_option linter.unusedVariables false
set_option linter.unusedSimpArgs false

set_option maxRecDepth 100000 in
set_option maxHeartbeats 4000000 in
theorem spec_l2Ask (S : HP) (w : World) [H : SepI w S] (A : Option Addr) (c : Nat) (bs : List Bd) [r : Rd S A (cBds bs)] [B : Bodies S bs] (fn arg fuel : Int) (v : Bool) (hv : askB (bs.map (·.l)) fn arg fuel = v) :
    Calls Try.prog 57 #[.agg #[.slice A bs.length c], .int .i64 fn, .int .i64 arg, .int .i64 fuel] w fun e w' => e = .returned (.bool v) ∧ Post w S w' := by
  have hbn := B.n
  obtain ⟨p, hp⟩ : ∃ p, progB (bs.map (·.l)) = p := ⟨_, rfl⟩
  obtain ⟨q, hq⟩ : ∃ q, inB fn 0 ((bs.length : Int) - 1) = q := ⟨_, rfl⟩
  obtain ⟨a, ha⟩ : ∃ a, inB arg (-32768) 32767 = a := ⟨_, rfl⟩
  obtain ⟨u, hu⟩ : ∃ u, inB fuel 0 200 = u := ⟨_, rfl⟩
  have hvv : v = (p && (q && (a && u))) := by rw [← hv]; unfold askB; rw [List.length_map, hp, hq, ha, hu]
  clear hv
  have HP0 := Hd.mk hp
  have HQ0 := Hd.mk hq
  have HA0 := Hd.mk ha
  have HU0 := Hd.mk hu
  clear hp hq ha hu
  cases p
  · subst hvv
    go_enter Try.func57, Try.ntmps57
    go_wp2_with fail
    refine (spec_l2Program _ _ _ _ bs).mono ?_
    rintro e w1 ⟨rfl, HP⟩
    rw [HP0.out]
    have HS1 := HP.sep
    have HE1 := HP.ext
    clear HP
    go_wp2
    go_ret
    exact ⟨rfl, Post.mk' (Ent.sep (S := _) (T := S) inferInstance inferInstance) inferInstance⟩
  cases q
  · subst hvv
    go_enter Try.func57, Try.ntmps57
    go_wp2_with fail
    refine (spec_l2Program _ _ _ _ bs).mono ?_
    rintro e w1 ⟨rfl, HP⟩
    rw [HP0.out]
    have HS1 := HP.sep
    have HE1 := HP.ext
    clear HP
    go_wp2_with fail
    refine (spec_l2Function _ _ _ _ _ _ _ (by omega) HQ0.out).mono ?_
    rintro e w2 ⟨rfl, HP⟩
    have HS2 := HP.sep
    have HE2 := HP.ext
    clear HP
    go_wp2
    go_ret
    exact ⟨rfl, Post.mk' (Ent.sep (S := _) (T := S) inferInstance inferInstance) inferInstance⟩
  cases a
  · subst hvv
    go_enter Try.func57, Try.ntmps57
    go_wp2_with fail
    refine (spec_l2Program _ _ _ _ bs).mono ?_
    rintro e w1 ⟨rfl, HP⟩
    rw [HP0.out]
    have HS1 := HP.sep
    have HE1 := HP.ext
    clear HP
    go_wp2_with fail
    refine (spec_l2Function _ _ _ _ _ _ _ (by omega) HQ0.out).mono ?_
    rintro e w2 ⟨rfl, HP⟩
    have HS2 := HP.sep
    have HE2 := HP.ext
    clear HP
    go_wp2_with fail
    refine (spec_l2Number _ _ _ HA0.out).mono ?_
    rintro e wz ⟨rfl, hz⟩
    have hz2 := hz.symm
    subst hz2
    clear hz
    go_wp2
    go_ret
    exact ⟨rfl, Post.mk' (Ent.sep (S := _) (T := S) inferInstance inferInstance) inferInstance⟩
  cases u
  · subst hvv
    go_enter Try.func57, Try.ntmps57
    go_wp2_with fail
    refine (spec_l2Program _ _ _ _ bs).mono ?_
    rintro e w1 ⟨rfl, HP⟩
    rw [HP0.out]
    have HS1 := HP.sep
    have HE1 := HP.ext
    clear HP
    go_wp2_with fail
    refine (spec_l2Function _ _ _ _ _ _ _ (by omega) HQ0.out).mono ?_
    rintro e w2 ⟨rfl, HP⟩
    have HS2 := HP.sep
    have HE2 := HP.ext
    clear HP
    go_wp2_with fail
    refine (spec_l2Number _ _ _ HA0.out).mono ?_
    rintro e wz ⟨rfl, hz⟩
    have hz2 := hz.symm
    subst hz2
    clear hz
    go_wp2_with fail
    refine (spec_in _ _ _ _ _ HU0.out).mono ?_
    rintro e wz ⟨rfl, hz⟩
    have hz2 := hz.symm
    subst hz2
    clear hz
    go_wp2
    go_ret
    exact ⟨rfl, Post.mk' (Ent.sep (S := _) (T := S) inferInstance inferInstance) inferInstance⟩
  · subst hvv
    go_enter Try.func57, Try.ntmps57
    go_wp2_with fail
    refine (spec_l2Program _ _ _ _ bs).mono ?_
    rintro e w1 ⟨rfl, HP⟩
    rw [HP0.out]
    have HS1 := HP.sep
    have HE1 := HP.ext
    clear HP
    go_wp2_with fail
    refine (spec_l2Function _ _ _ _ _ _ _ (by omega) HQ0.out).mono ?_
    rintro e w2 ⟨rfl, HP⟩
    have HS2 := HP.sep
    have HE2 := HP.ext
    clear HP
    go_wp2_with fail
    refine (spec_l2Number _ _ _ HA0.out).mono ?_
    rintro e wz ⟨rfl, hz⟩
    have hz2 := hz.symm
    subst hz2
    clear hz
    go_wp2_with fail
    refine (spec_in _ _ _ _ _ HU0.out).mono ?_
    rintro e wz ⟨rfl, hz⟩
    have hz2 := hz.symm
    subst hz2
    clear hz
    go_wp2
    go_ret
    exact ⟨rfl, Post.mk' (Ent.sep (S := _) (T := S) inferInstance inferInstance) inferInstance⟩
abbrev outI (k v : Int) (vt : Value) (mk : Int) : Value := .agg #[.int .i64 k, .int .i64 v, vt, .int .i64 mk]
set_option maxRecDepth 100000 in
set_option maxHeartbeats 4000000 in
theorem spec_RunProgramN (S : HP) (w : World) [H : SepI w S] (A : Option Addr) (c : Nat) (bs : List Bd) [r : Rd S A (cBds bs)] [B : Bodies S bs] (fn arg fuel : Int) (hv : askB (bs.map (·.l)) fn arg fuel = false) :
    Calls Try.prog 16 #[.agg #[.slice A bs.length c], .int .i64 fn, .int .i64 arg, .int .i64 fuel] w (fun e w' => e = two (outI 0 0 (.slice none 0 0) 0) (.bool false) ∧ Post w S w') := by
  have hbn := B.n
  have HV := Hd.mk hv
  clear hv
  have hnot : ∀ (x : Bool) (w : World), (Op.unary .not (.bool x)).run Try.prog w = .ok (.bool (!x)) w := fun _ _ => rfl
  go_enter Try.func16, Try.ntmps16
  go_wp2_with fail
  refine (spec_l2Ask _ _ A c bs fn arg fuel _ HV.out).mono ?_
  rintro e w1 ⟨rfl, HP⟩
  have HS1 := HP.sep
  have HE1 := HP.ext
  clear HP
  go_wp2
  refine bodyPost_ret (v := .tuple #[outI 0 0 (.slice none 0 0) 0, .bool false]) (by simp [results, Try.results16, go_sem]) rfl ?_
  exact ⟨rfl, Post.mk' (Ent.sep (S := _) (T := S) inferInstance inferInstance) inferInstance⟩
def RunS (S : HP) (q : SM × SF) (w : World) (e : Ending) (w' : World) : Prop := ∃ A n c, e = two (outV q (.slice A n c)) (.bool true) ∧ Post w (Row 94 3 (.slice A n c) q.1.trace.length (cEvs q.1.trace) * S) w'
set_option maxRecDepth 100000 in
set_option maxHeartbeats 4000000 in
theorem spec_RunProgram (S : HP) (w : World) [H : SepI w S] (A : Option Addr) (c : Nat) (bs : List Bd) [r : Rd S A (cBds bs)] [B : Bodies S bs] (fn arg : Int) (fu : Nat) (hnn : NoneNil bs) (hv : askB (bs.map (·.l)) fn arg fu = true) :
    Calls Try.prog 16 #[.agg #[.slice A bs.length c], .int .i64 fn, .int .i64 arg, .int .i64 fu] w (RunS S (wholeS (bs.map (·.l)) fn arg fu) w) := by
  have hbn := B.n
  have HV := Hd.mk hv
  have HNN := Hd.mk hnn
  obtain ⟨q, hq⟩ : ∃ q, wholeS (bs.map (·.l)) fn arg fu = q := ⟨_, rfl⟩
  rw [hq]
  have HQ := Hd.mk hq
  clear hv hnn hq
  have hnot : ∀ (x : Bool) (w : World), (Op.unary .not (.bool x)).run Try.prog w = .ok (.bool (!x)) w := fun _ _ => rfl
  go_enter Try.func16, Try.ntmps16
  go_wp2_with fail
  refine (spec_l2Ask _ _ A c bs fn arg fu _ HV.out).mono ?_
  rintro e w1 ⟨rfl, HP⟩
  have HS1 := HP.sep
  have HE1 := HP.ext
  clear HP
  go_wp2_with fail
  refine (spec_l2Run _ _ A bs.length c bs rfl HNN.out _ rfl (askB_of HV.out).1 fn arg fu (askB_of HV.out).2.1 (askB_of HV.out).2.2.1 (by have := (askB_of HV.out).2.2.2.2; omega)).mono ?_
  rw [HQ.out]
  rintro e w2 ⟨vt, rfl, ⟨A', n', c', rfl⟩, HP⟩
  have HS2 := HP.sep
  have HE2 := HP.ext
  clear HP
  go_wp2
  refine bodyPost_ret (v := .tuple #[outV q (.slice A' n' c'), .bool true]) (by simp [results, Try.results16, go_sem]) rfl ?_
  exact ⟨A', n', c', rfl, Post.mk' (Ent.sep (S := _) inferInstance inferInstance) inferInstance⟩
end Go.Proofs.Ythnaoedlnificaa
