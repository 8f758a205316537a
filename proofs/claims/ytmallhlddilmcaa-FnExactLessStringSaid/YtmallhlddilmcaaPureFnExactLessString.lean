/- For all strings a and b, the law FnExactLessString returns true: the program's LessString answers what the reference's does. No condition beyond the row's own. -/
import Derived.Test.YtmallhlddilmcaaPFnExactLessStringx1
namespace Go.Proofs.Ytmallhlddilmcaa.Pure
open Go.RowKit Go.Proofs.Ytmallhlddilmcaa.PFnExactLessString Go.Proofs.YtmallhlddilmcaaW.PrintWords Go.Proofs.YtmallhlddilmcaaW.PrintLast

theorem FnExactLessString : laws_FnExactLessString.Pure := by
  intro a0 a1 _ _
  unfold laws_FnExactLessString.f spec_LessString.f impl_LessString.f
  simp

end Go.Proofs.Ytmallhlddilmcaa.Pure
