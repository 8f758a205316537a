-- PRINTED BY print.sh 35421559b90ae4d0a3588c463048766b98c2df88dd9212a6774a882060cdf62d: not written by this session
import Derived.Test.YtmallhlddilmcaaProg
import Derived.Below
import Derived.Deep.Draws
import Derived.Deep.AppendLies
import Derived.Maps.AppendAt
import Derived.OwnWalk
import Derived.Laws.BytesArg
import Derived.Laws.MakeOwn
import Derived.Laws.OwnMore
import Derived.Deep.OwnRows
import Derived.Tactics
import Derived.Lib.ConvBytes
import Derived.Laws.Slices
import Derived.WalkKit
import Derived.KernelRfl
import Derived.RowKit3
import Derived.Deep.LoopGhost
import Derived.Deep.QuietTactic
import Derived.BigQuiet
import Derived.WideLaws
import Derived.Deep.DeepCutAuto
import Derived.Deep.CutBlock
import Derived.Deep.RegionHeld3
import Derived.Laws.Rows
import Derived.Lib.AppendStr
import Derived.ArgAppend
import Derived.Laws.IdiomCopy
import Derived.OrdersHeld
import Derived.Laws.BitsLemmas
import Derived.RowKit
import Derived.Test.YtmallhlddilmcaaWWords
import Derived.Test.YtmallhlddilmcaaWLast
import Derived.Test.YtmallhlddilmcaaWTab
import Derived.Test.YtmallhlddilmcaaWFour
import Derived.Test.YtmallhlddilmcaaWQPut
import Derived.Test.YtmallhlddilmcaaWApart
import Derived.Test.YtmallhlddilmcaaWArr
import Derived.Test.YtmallhlddilmcaaWZeros
import Derived.Test.YtmallhlddilmcaaWFoot
import Derived.Test.YtmallhlddilmcaaWKept
import Derived.Test.YtmallhlddilmcaaWShare
import Derived.Test.YtmallhlddilmcaaWN
import Derived.Test.YtmallhlddilmcaaWFootNe
import Derived.Test.YtmallhlddilmcaaWAt
import Derived.Test.YtmallhlddilmcaaWEqStruct
import Derived.Test.YtmallhlddilmcaaWRepsOne
import Derived.Test.YtmallhlddilmcaaWInv
import Derived.Test.YtmallhlddilmcaaWInvWords
import Derived.Test.YtmallhlddilmcaaWGuard
import Derived.Test.YtmallhlddilmcaaWNEv
import Derived.Test.YtmallhlddilmcaaWMore
namespace Go.Proofs.Ytmallhlddilmcaa.PFnExactConstants
open Go.RowKit Go.Proofs.YtmallhlddilmcaaW.PrintWords Go.Proofs.YtmallhlddilmcaaW.PrintLast Go.Proofs.YtmallhlddilmcaaW.PrintMore
attribute [local go_sem] max2_int min2_int max_two min_two max_three min_three max_four min_four   -- for this text's walks alone
set_option linter.unusedVariables false
set_option linter.unusedSimpArgs false



def errW : Option Int → Value
  | none => .nilIface
  | some c => .iface 0 (.int .i64 c)
theorem errW_none : errW none = .nilIface := rfl
theorem errW_some (c : Int) : errW (some c) = .iface 0 (.int .i64 c) := rfl

-- the values' own types

end Go.Proofs.Ytmallhlddilmcaa.PFnExactConstants
