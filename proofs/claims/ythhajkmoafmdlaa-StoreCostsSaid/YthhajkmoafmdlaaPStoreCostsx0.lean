-- PRINTED BY print.sh 35421559b90ae4d0a3588c463048766b98c2df88dd9212a6774a882060cdf62d: not written by this session
import Derived.Test.YthhajkmoafmdlaaProg
import Derived.Below
import Derived.Deep.Draws
import Derived.Deep.AppendLies
import Derived.Maps.AppendAt
import Derived.OwnWalk
import Derived.Laws.BytesArg
import Derived.Laws.MakeOwn
import Derived.Laws.OwnMore
import Derived.Deep.OwnRows
import Derived.Tactics
import Derived.Lib.ConvBytes
import Derived.Laws.Slices
import Derived.WalkKit
import Derived.KernelRfl
import Derived.RowKit3
import Derived.Deep.LoopGhost
import Derived.Deep.QuietTactic
import Derived.BigQuiet
import Derived.WideLaws
import Derived.Deep.DeepCutAuto
import Derived.Deep.CutBlock
import Derived.Deep.RegionHeld3
import Derived.Laws.Rows
import Derived.Lib.AppendStr
import Derived.ArgAppend
import Derived.Laws.IdiomCopy
import Derived.OrdersHeld
import Derived.Laws.BitsLemmas
import Derived.RowKit
import Derived.Test.YthhajkmoafmdlaaWWords
import Derived.Test.YthhajkmoafmdlaaWLast
import Derived.Test.YthhajkmoafmdlaaWTab
import Derived.Test.YthhajkmoafmdlaaWFour
import Derived.Test.YthhajkmoafmdlaaWQPut
import Derived.Test.YthhajkmoafmdlaaWApart
import Derived.Test.YthhajkmoafmdlaaWArr
import Derived.Test.YthhajkmoafmdlaaWZeros
import Derived.Test.YthhajkmoafmdlaaWFoot
import Derived.Test.YthhajkmoafmdlaaWKept
import Derived.Test.YthhajkmoafmdlaaWShare
import Derived.Test.YthhajkmoafmdlaaWN
import Derived.Test.YthhajkmoafmdlaaWFootNe
import Derived.Test.YthhajkmoafmdlaaWAt
import Derived.Test.YthhajkmoafmdlaaWEqStruct
import Derived.Test.YthhajkmoafmdlaaWRepsOne
import Derived.Test.YthhajkmoafmdlaaWInv
import Derived.Test.YthhajkmoafmdlaaWInvWords
import Derived.Test.YthhajkmoafmdlaaWGuard
import Derived.Test.YthhajkmoafmdlaaWNEv
import Derived.Test.YthhajkmoafmdlaaWMore
namespace Go.Proofs.Ythhajkmoafmdlaa.PStoreCosts
open Go.RowKit Go.Proofs.YthhajkmoafmdlaaW.PrintWords Go.Proofs.YthhajkmoafmdlaaW.PrintLast Go.Proofs.YthhajkmoafmdlaaW.PrintMore
attribute [local go_sem] max2_int min2_int max_two min_two max_three min_three max_four min_four   -- for this text's walks alone
set_option linter.unusedVariables false
set_option linter.unusedSimpArgs false



def errW : Option Int → Value
  | none => .nilIface
  | some c => .iface 0 (.int .i64 c)
theorem errW_none : errW none = .nilIface := rfl
theorem errW_some (c : Int) : errW (some c) = .iface 0 (.int .i64 c) := rfl

-- the values' own types

end Go.Proofs.Ythhajkmoafmdlaa.PStoreCosts
