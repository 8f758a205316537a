/- New errors: plain law, growing rows of errors. Conditions: none. -/
import Derived.Test.YtnmbmdigiaokjaaMl
import Derived.Test.YtnmbmdigiaokjaaSt
import Derived.Test.YtnmbmdigiaokjaaUw
import Derived.Test.YtnmbmdigiaokjaaLb
namespace Go.Proofs.Ytnmbmdigiaokjaa
open Go.RowKit SL
set_option linter.unusedVariables false
set_option linter.unusedSimpArgs false

/-- Errors with a new one ahead: all numbers rise by one. -/
def upEC (x : EC) : EC := (x.1, x.2.1, x.2.2.map (· + 1))
def aheadF (k c : Int) (l : List Int) (es : List EC) : List EC := ((k, c, l) :: es).map upEC
theorem OwnE.nil {w : World} {S : HP} (H : SepI w S) : SepI w (OwnE (.slice none 0 0) [] * S) := by
  refine SepI.cast (Row.nil0 (SepI.emp H) 70 3) ?_
  show _ = Row 70 3 (.slice none 0 0) 0 [] * emp * S
  ac_rfl
theorem OwnE.snoc {v : Value} {d : List EN} {x : EN} {F : HP} : Row 70 3 v (d.length + 1) (cENs d ++ [.int .i64 x.k, .int .i64 x.c, .slice x.p x.l.length x.pc]) * (OwnI x * (stars (d.map OwnI) * F)) = OwnE v (d ++ [x]) * F := by
  unfold OwnE
  rw [List.length_append, cENs_append, List.map_append, List.map_cons, List.map_nil, stars_snoc]
  show _ = Row _ 3 v (d.length + 1) (cENs d ++ (cENs [x])) * _ * F
  rw [show cENs [x] = [.int .i64 x.k, .int .i64 x.c, .slice x.p x.l.length x.pc] from rfl]
  ac_rfl
theorem OwnE.lit1 {w : World} {g : Nat} {x : EN} {F : HP} (H : SepI w (pts g (.cells #[.int .i64 x.k, .int .i64 x.c, .slice x.p x.l.length x.pc] 70 (0, 0)) * (OwnI x * F))) : SepI w (OwnE (.slice (some ⟨g, 0, none⟩) 1 1) [x] * F) := by
  have h := Row.close (size := 3) H (Nat.le_refl 1) (by unfold maxLen; omega) rfl
  refine SepI.cast (SepI.emp h) ?_
  show _ = Row 70 3 _ 1 _ * (OwnI x * emp) * F
  show emp * (Row 70 3 _ 1 _ * (OwnI x * F)) = _
  ac_rfl
theorem OwnE.lit0 {w : World} {g : Nat} {F : HP} (H : SepI w (pts g (.cells #[] 70 (0, 0)) * F)) : SepI w (OwnE (.slice (some ⟨g, 0, none⟩) 0 0) [] * F) := by
  refine SepI.cast (SepI.emp (Row.lit0 (size := 3) H)) ?_
  show _ = Row 70 3 (.slice (some ⟨g, 0, none⟩) 0 0) 0 [] * emp * F
  ac_rfl
def upEN (x : EN) : EN := ⟨x.k, x.c, x.p, x.pc, x.l.map (· + 1)⟩
theorem upEN_ec (x : EN) : ecOf (upEN x) = upEC (ecOf x) := rfl
theorem cENs_up (d : List EN) : cENs (d.map upEN) = cENs d := by
  unfold cENs
  induction d with
  | nil => rfl
  | cons x d ih => rw [List.map_cons, List.flatMap_cons, List.flatMap_cons, ih]; congr 1; simp [cEN, upEN]
theorem OwnE.snoc' {v : Value} {d : List EN} {x : EN} {m : Nat} (hm : m = d.length) {F G : HP} : Row 70 3 v (m + 1) (cENs d ++ [.int .i64 x.k, .int .i64 x.c, .slice x.p x.l.length x.pc]) * (Row 3 1 (.slice x.p x.l.length x.pc) x.l.length (ints x.l) * (stars (d.map OwnI) * (G * F))) = G * (Row 70 3 v (d ++ [x]).length (cENs (d ++ [x])) * (stars ((d ++ [x]).map OwnI) * F)) := by
  subst hm
  have h := OwnE.snoc (v := v) (d := d) (x := x) (F := G * F)
  unfold OwnE at h
  show Row _ 3 v _ _ * (OwnI x * _) = _
  rw [h]
  ac_rfl
end Go.Proofs.Ytnmbmdigiaokjaa
