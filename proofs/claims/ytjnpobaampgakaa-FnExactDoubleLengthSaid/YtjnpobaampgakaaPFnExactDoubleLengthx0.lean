-- Made by this session's program hyb.py out of Lean's print of the program; Lean checks it.
import Derived.Test.YtjnpobaampgakaaProg
import Derived.Below
import Derived.Deep.Draws
import Derived.Deep.AppendLies
import Derived.Maps.AppendAt
import Derived.OwnWalk
import Derived.Laws.BytesArg
import Derived.Laws.MakeOwn
import Derived.Laws.OwnMore
import Derived.Deep.OwnRows
import Derived.Tactics
import Derived.Lib.ConvBytes
import Derived.Laws.Slices
import Derived.WalkKit
import Derived.KernelRfl
import Derived.RowKit3
import Derived.Deep.LoopGhost
import Derived.Deep.QuietTactic
import Derived.BigQuiet
import Derived.WideLaws
import Derived.Deep.DeepCutAuto
import Derived.Deep.CutBlock
import Derived.Deep.RegionHeld3
import Derived.Laws.Rows
import Derived.Lib.AppendStr
import Derived.ArgAppend
import Derived.Laws.IdiomCopy
import Derived.OrdersHeld
import Derived.Laws.BitsLemmas
import Derived.RowKit
import Derived.Test.YtjnpobaampgakaaBase
import Derived.Test.YtjnpobaampgakaaWWords
import Derived.Test.YtjnpobaampgakaaWLast
import Derived.Test.YtjnpobaampgakaaWTab
import Derived.Test.YtjnpobaampgakaaWFour
import Derived.Test.YtjnpobaampgakaaWQPut
import Derived.Test.YtjnpobaampgakaaWApart
import Derived.Test.YtjnpobaampgakaaWArr
import Derived.Test.YtjnpobaampgakaaWZeros
import Derived.Test.YtjnpobaampgakaaWFoot
import Derived.Test.YtjnpobaampgakaaWKept
import Derived.Test.YtjnpobaampgakaaWShare
import Derived.Test.YtjnpobaampgakaaWN
import Derived.Test.YtjnpobaampgakaaWFootNe
import Derived.Test.YtjnpobaampgakaaWAt
import Derived.Test.YtjnpobaampgakaaWEqStruct
import Derived.Test.YtjnpobaampgakaaWRepsOne
import Derived.Test.YtjnpobaampgakaaWInv
import Derived.Test.YtjnpobaampgakaaWInvWords
import Derived.Test.YtjnpobaampgakaaWGuard
import Derived.Test.YtjnpobaampgakaaWNEv
import Derived.Test.YtjnpobaampgakaaWMore
namespace Go.Proofs.Ytjnpobaampgakaa.PFnExactDoubleLength
open Go.RowKit Go.Proofs.YtjnpobaampgakaaW.PrintWords Go.Proofs.YtjnpobaampgakaaW.PrintLast Go.Proofs.YtjnpobaampgakaaW.PrintMore
attribute [local go_sem] max2_int min2_int max_two min_two max_three min_three max_four min_four bn_leq bn_gtr bn_geq   -- for this text's walks alone
set_option linter.unusedVariables false
set_option linter.unusedSimpArgs false



def errW : Option Int → Value
  | none => .nilIface
  | some c => .iface 0 (.int .i64 c)
theorem errW_none : errW none = .nilIface := rfl
theorem errW_some (c : Int) : errW (some c) = .iface 0 (.int .i64 c) := rfl

-- the values' own types

end Go.Proofs.Ytjnpobaampgakaa.PFnExactDoubleLength
