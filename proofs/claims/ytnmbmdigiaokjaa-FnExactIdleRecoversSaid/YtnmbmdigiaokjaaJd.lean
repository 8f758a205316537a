/- IdleRecovers: what the law asks of its answer. Conditions: none. -/
import Derived.Test.YtnmbmdigiaokjaaJc
namespace Go.Proofs.Ytnmbmdigiaokjaa
theorem ev_IdleRecovers (L : List (List St)) (f : Int) : ∃ m, (idleAns L f).length = m * 2 := idleAns_even L f
end Go.Proofs.Ytnmbmdigiaokjaa
