/- Lean functions for the Go functions of one law, and proofs that the calls come to them: made by a program of this session (wip/tools/plug.py) over the printer of the kit; no conditions. -/
import Derived.Test.YtfnlankpdnkmoaaProg
import Derived.Below
import Derived.Deep.Draws
import Derived.Deep.AppendLies
import Derived.Maps.AppendAt
import Derived.OwnWalk
import Derived.Laws.BytesArg
import Derived.Laws.MakeOwn
import Derived.Laws.OwnMore
import Derived.Deep.OwnRows
import Derived.Tactics
import Derived.Lib.ConvBytes
import Derived.Laws.Slices
import Derived.WalkKit
import Derived.KernelRfl
import Derived.RowKit3
import Derived.Deep.LoopGhost
import Derived.Deep.QuietTactic
import Derived.BigQuiet
import Derived.WideLaws
import Derived.Deep.DeepCutAuto
import Derived.Deep.CutBlock
import Derived.Deep.RegionHeld3
import Derived.Laws.Rows
import Derived.Lib.AppendStr
import Derived.ArgAppend
import Derived.Laws.IdiomCopy
import Derived.OrdersHeld
import Derived.Laws.BitsLemmas
import Derived.RowKit
import Derived.WalkMore
import Derived.Test.YtfnlankpdnkmoaaWWords
import Derived.Test.YtfnlankpdnkmoaaWLast
import Derived.Test.YtfnlankpdnkmoaaWTab
import Derived.Test.YtfnlankpdnkmoaaWFour
import Derived.Test.YtfnlankpdnkmoaaWQPut
import Derived.Test.YtfnlankpdnkmoaaWApart
import Derived.Test.YtfnlankpdnkmoaaWArr
import Derived.Test.YtfnlankpdnkmoaaWZeros
import Derived.Test.YtfnlankpdnkmoaaWFoot
import Derived.Test.YtfnlankpdnkmoaaWKept
import Derived.Test.YtfnlankpdnkmoaaWShare
import Derived.Test.YtfnlankpdnkmoaaWN
import Derived.Test.YtfnlankpdnkmoaaWFootNe
import Derived.Test.YtfnlankpdnkmoaaWAt
import Derived.Test.YtfnlankpdnkmoaaWEqStruct
import Derived.Test.YtfnlankpdnkmoaaWRepsOne
import Derived.Test.YtfnlankpdnkmoaaWInv
import Derived.Test.YtfnlankpdnkmoaaWInvWords
import Derived.Test.YtfnlankpdnkmoaaWGuard
import Derived.Test.YtfnlankpdnkmoaaWNEv
import Derived.Test.YtfnlankpdnkmoaaWMore
namespace Go.Proofs.Ytfnlankpdnkmoaa.B
open Go.RowKit Go.Proofs.YtfnlankpdnkmoaaW.PrintWords Go.Proofs.YtfnlankpdnkmoaaW.PrintLast Go.Proofs.YtfnlankpdnkmoaaW.PrintMore
attribute [local go_sem] max2_int min2_int max_two min_two max_three min_three max_four min_four   -- for this text's walks alone
set_option linter.unusedVariables false
set_option linter.unusedSimpArgs false



def errW : Option Int → Value
  | none => .nilIface
  | some c => .iface 0 (.int .i64 c)
theorem errW_none : errW none = .nilIface := rfl
theorem errW_some (c : Int) : errW (some c) = .iface 0 (.int .i64 c) := rfl

-- the values' own types

end Go.Proofs.Ytfnlankpdnkmoaa.B
