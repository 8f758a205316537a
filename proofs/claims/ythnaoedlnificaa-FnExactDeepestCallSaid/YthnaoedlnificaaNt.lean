/- The reference's DeepestCall. Conditions: lengths within bounds. -/
import Derived.Test.YthnaoedlnificaaNs
namespace Go.Proofs.Ythnaoedlnificaa
open Go.RowKit SL
attribute [local go_sem] cell_blk frozen_blk lt_blk cell_at frozen_row lt_row
set_option linter.unusedVariables false
set_option linter.unusedSimpArgs false

set_option maxRecDepth 100000 in
set_option maxHeartbeats 8000000 in
theorem spec_DeepestCallN (S : HP) (w : World) [H : SepI w S] (A : Option Addr) (c : Nat) (bs : List Bd) [r : Rd S A (cBds bs)] [B : Bodies S bs] (fn arg fuel : Int) (hv : askB (bs.map (·.l)) fn arg fuel = false) :
    Calls Try.prog 24 #[.agg #[.slice A bs.length c], .int .i64 fn, .int .i64 arg, .int .i64 fuel] w (fun e w' => e = two (.int .i64 0) (.bool false) ∧ Post w S w') := by
  have hbn := B.n
  have HV := Hd.mk hv
  clear hv
  have hnot : ∀ (x : Bool) (w : World), (Op.unary .not (.bool x)).run Try.prog w = .ok (.bool (!x)) w := fun _ _ => rfl
  go_enter Try.func24, Try.ntmps24
  go_wp2_with fail
  refine (spec_l2Ask _ _ A c bs fn arg fuel _ HV.out).mono ?_
  rintro e w1 ⟨rfl, HP⟩
  have HS1 := HP.sep
  have HE1 := HP.ext
  clear HP
  go_wp2
  go_ret2
  exact ⟨rfl, Post.mk' (Ent.sep (S := _) (T := S) inferInstance inferInstance) inferInstance⟩
set_option maxRecDepth 100000 in
set_option maxHeartbeats 8000000 in
theorem spec_DeepestCall (S : HP) (w : World) [H : SepI w S] (A : Option Addr) (c : Nat) (bs : List Bd) [r : Rd S A (cBds bs)] [B : Bodies S bs] (hnn : NoneNil bs) (fn arg : Int) (fu : Nat) (hv : askB (bs.map (·.l)) fn arg fu = true) :
    Calls Try.prog 24 #[.agg #[.slice A bs.length c], .int .i64 fn, .int .i64 arg, .int .i64 fu] w (fun e w' => e = two (.int .i64 (wholeS (bs.map (·.l)) fn arg fu).1.deep) (.bool true) ∧ Post w S w') := by
  have hbn := B.n
  have HV := Hd.mk hv
  have HX := Hd.mk hnn
  clear hv hnn
  obtain ⟨q, hq⟩ : ∃ q, wholeS (bs.map (·.l)) fn arg fu = q := ⟨_, rfl⟩
  rw [hq]
  have HQ := Hd.mk hq
  clear hq
  have hnot : ∀ (x : Bool) (w : World), (Op.unary .not (.bool x)).run Try.prog w = .ok (.bool (!x)) w := fun _ _ => rfl
  go_enter Try.func24, Try.ntmps24
  go_wp2_with fail
  refine (spec_l2Ask _ _ A c bs fn arg fu _ HV.out).mono ?_
  rintro e w1 ⟨rfl, HP⟩
  have HS1 := HP.sep
  have HE1 := HP.ext
  clear HP
  go_wp2_with fail
  refine (spec_l2Whole _ _ A bs.length c bs rfl HX.out _ rfl (askB_of HV.out).1 fn arg fu (askB_of HV.out).2.1 (askB_of HV.out).2.2.1 (by have := (askB_of HV.out).2.2.2.2; omega)).mono ?_
  rintro e w5x ⟨A', c', vt, vs, vd, r', rfl, hr', ⟨A3, n3, c3, rfl⟩, ⟨A4, n4, c4, rfl⟩, ⟨A5, n5, c5, rfl⟩, HP⟩
  rw [HQ.out] at hr' HP ⊢
  have HS5x := HP.sep
  have HE5x := HP.ext
  clear HP B r HQ HX
  obtain ⟨⟨sp', sh', mk', dp', t', sn'⟩, ⟨f', dep', rg', dfs', ki', va', lv', df', pg', pa', rc', ou'⟩⟩ := q
  simp only at hr' HS5x
  subst hr'
  simp only []
  rename_i hK
  refine hK _ _ ?_
  refine ev_val rfl _ rfl ?_
  refine ev_val rfl _ rfl ?_
  refine ev_val rfl _ rfl ?_
  refine ev_run (w1 := w5x.alloc (.cells #[Value.slice none 0 0, .int .i64 0, .bool false, .int .i64 0, .int .i64 0, .int .i64 0, .slice none 0 0, .slice none 0 0] 83 (0, 0))) rfl (.pointer (some ⟨w5x.heap.size, 0, none⟩)) (by go_simp) ?_
  refine ev_run (w1 := (w5x.alloc (.cells #[Value.slice none 0 0, .int .i64 0, .bool false, .int .i64 0, .int .i64 0, .int .i64 0, .slice none 0 0, .slice none 0 0] 83 (0, 0))).alloc (.cells #[Value.int .i64 0, .int .i64 0, .int .i64 0, .int .i64 0, .int .i64 0, .int .i64 0, .slice none 0 0, .int .i64 0, .int .i64 0, .bool false, .bool false, .bool false, .int .i64 0, .bool false, .int .i64 0] 85 (0, 0))) rfl (.pointer (some ⟨w5x.heap.size + 1, 0, none⟩)) (by go_simp) ?_
  refine ev_store rfl 83 _ _ rfl w5x.heap.size #[Value.slice A' bs.length c', .int .i64 (fu : Int), .bool sp', .int .i64 sh', .int .i64 (mk' : Int), .int .i64 dp', .slice A3 n3 c3, .slice A4 n4 c4] rfl rfl info_sm (by rfl) (by simp [Value.oneCell']) ?_
  intro w5 HS5 HE5
  refine ev_store rfl 85 _ _ rfl (w5x.heap.size + 1) #[Value.int .i64 f', .int .i64 dep', .int .i64 r'.a, .int .i64 r'.b, .int .i64 r'.c, .int .i64 r'.d, .slice A5 n5 c5, .int .i64 ki', .int .i64 va', .bool lv', .bool df', .bool pg', .int .i64 pa', .bool rc', .int .i64 ou'] rfl rfl info_sf (by rfl) (by simp [Value.oneCell']) ?_
  intro w6 HS6 HE6
  go_wp2
  go_ret2
  exact ⟨rfl, Post.mk' (Ent.sep (S := _) (T := S) inferInstance inferInstance) inferInstance⟩
end Go.Proofs.Ythnaoedlnificaa
