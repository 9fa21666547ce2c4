-- Made by this session's program hyb.py out of Lean's print of the program; Lean checks it.
import Derived.Test.YtmihfmhfgjnfcaaProg
import Derived.Below
import Derived.Deep.Draws
import Derived.Deep.AppendLies
import Derived.Maps.AppendAt
import Derived.OwnWalk
import Derived.Laws.BytesArg
import Derived.Laws.MakeOwn
import Derived.Laws.OwnMore
import Derived.Deep.OwnRows
import Derived.Tactics
import Derived.Lib.ConvBytes
import Derived.Laws.Slices
import Derived.WalkKit
import Derived.KernelRfl
import Derived.RowKit3
import Derived.Deep.LoopGhost
import Derived.Deep.QuietTactic
import Derived.BigQuiet
import Derived.WideLaws
import Derived.Deep.DeepCutAuto
import Derived.Deep.CutBlock
import Derived.Deep.RegionHeld3
import Derived.Laws.Rows
import Derived.Lib.AppendStr
import Derived.ArgAppend
import Derived.Laws.IdiomCopy
import Derived.OrdersHeld
import Derived.Laws.BitsLemmas
import Derived.RowKit
import Derived.Test.YtmihfmhfgjnfcaaBase
import Derived.Test.YtmihfmhfgjnfcaaWWords
import Derived.Test.YtmihfmhfgjnfcaaWLast
import Derived.Test.YtmihfmhfgjnfcaaWTab
import Derived.Test.YtmihfmhfgjnfcaaWFour
import Derived.Test.YtmihfmhfgjnfcaaWQPut
import Derived.Test.YtmihfmhfgjnfcaaWApart
import Derived.Test.YtmihfmhfgjnfcaaWArr
import Derived.Test.YtmihfmhfgjnfcaaWZeros
import Derived.Test.YtmihfmhfgjnfcaaWFoot
import Derived.Test.YtmihfmhfgjnfcaaWKept
import Derived.Test.YtmihfmhfgjnfcaaWShare
import Derived.Test.YtmihfmhfgjnfcaaWN
import Derived.Test.YtmihfmhfgjnfcaaWFootNe
import Derived.Test.YtmihfmhfgjnfcaaWAt
import Derived.Test.YtmihfmhfgjnfcaaWEqStruct
import Derived.Test.YtmihfmhfgjnfcaaWRepsOne
import Derived.Test.YtmihfmhfgjnfcaaWInv
import Derived.Test.YtmihfmhfgjnfcaaWInvWords
import Derived.Test.YtmihfmhfgjnfcaaWGuard
import Derived.Test.YtmihfmhfgjnfcaaWNEv
import Derived.Test.YtmihfmhfgjnfcaaWMore
namespace Go.Proofs.Ytmihfmhfgjnfcaa.R
open Go.RowKit Go.Proofs.YtmihfmhfgjnfcaaW.PrintWords Go.Proofs.YtmihfmhfgjnfcaaW.PrintLast Go.Proofs.YtmihfmhfgjnfcaaW.PrintMore
attribute [local go_sem] max2_int min2_int max_two min_two max_three min_three max_four min_four bn_leq bn_gtr bn_geq   -- for this text's walks alone
set_option linter.unusedVariables false
set_option linter.unusedSimpArgs false



def errW : Option Int → Value
  | none => .nilIface
  | some c => .iface 0 (.int .i64 c)
theorem errW_none : errW none = .nilIface := rfl
theorem errW_some (c : Int) : errW (some c) = .iface 0 (.int .i64 c) := rfl

theorem info3 : (Try.prog.info? 3).map (fun i => (i.zero, i.size, i.bytes)) = some (some (.int .i64 0), 1, 8) := by kernel_rfl
-- the values' own types

end Go.Proofs.Ytmihfmhfgjnfcaa.R
