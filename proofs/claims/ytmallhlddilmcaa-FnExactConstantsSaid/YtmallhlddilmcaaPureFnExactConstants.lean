/- The law FnExactConstants returns true. No condition. -/
import Derived.Test.YtmallhlddilmcaaPFnExactConstantsx1
namespace Go.Proofs.Ytmallhlddilmcaa.Pure
open Go.RowKit Go.Proofs.Ytmallhlddilmcaa.PFnExactConstants Go.Proofs.YtmallhlddilmcaaW.PrintWords Go.Proofs.YtmallhlddilmcaaW.PrintLast

theorem FnExactConstants : laws_FnExactConstants.Pure := rfl

end Go.Proofs.Ytmallhlddilmcaa.Pure
