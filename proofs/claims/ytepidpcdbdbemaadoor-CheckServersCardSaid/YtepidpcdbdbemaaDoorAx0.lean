/- Lean functions for the Go functions of one law, and proofs that the calls come to them: made by a program of this session (wip/tools/plug.py) over the printer of the kit; no conditions. -/
import Derived.Test.YtepidpcdbdbemaaDoorProg
import Derived.Below
import Derived.Deep.Draws
import Derived.Deep.AppendLies
import Derived.Maps.AppendAt
import Derived.OwnWalk
import Derived.Laws.BytesArg
import Derived.Laws.MakeOwn
import Derived.Laws.OwnMore
import Derived.Deep.OwnRows
import Derived.Tactics
import Derived.Lib.ConvBytes
import Derived.Laws.Slices
import Derived.WalkKit
import Derived.KernelRfl
import Derived.RowKit3
import Derived.Deep.LoopGhost
import Derived.Deep.QuietTactic
import Derived.BigQuiet
import Derived.WideLaws
import Derived.Deep.DeepCutAuto
import Derived.Deep.CutBlock
import Derived.Deep.RegionHeld3
import Derived.Laws.Rows
import Derived.Lib.AppendStr
import Derived.ArgAppend
import Derived.Laws.IdiomCopy
import Derived.OrdersHeld
import Derived.Laws.BitsLemmas
import Derived.RowKit
import Derived.WalkMore
import Derived.Test.YtepidpcdbdbemaaDoorWWords
import Derived.Test.YtepidpcdbdbemaaDoorWLast
import Derived.Test.YtepidpcdbdbemaaDoorWTab
import Derived.Test.YtepidpcdbdbemaaDoorWFour
import Derived.Test.YtepidpcdbdbemaaDoorWQPut
import Derived.Test.YtepidpcdbdbemaaDoorWApart
import Derived.Test.YtepidpcdbdbemaaDoorWArr
import Derived.Test.YtepidpcdbdbemaaDoorWZeros
import Derived.Test.YtepidpcdbdbemaaDoorWFoot
import Derived.Test.YtepidpcdbdbemaaDoorWKept
import Derived.Test.YtepidpcdbdbemaaDoorWShare
import Derived.Test.YtepidpcdbdbemaaDoorWN
import Derived.Test.YtepidpcdbdbemaaDoorWFootNe
import Derived.Test.YtepidpcdbdbemaaDoorWAt
import Derived.Test.YtepidpcdbdbemaaDoorWEqStruct
import Derived.Test.YtepidpcdbdbemaaDoorWRepsOne
import Derived.Test.YtepidpcdbdbemaaDoorWInv
import Derived.Test.YtepidpcdbdbemaaDoorWInvWords
import Derived.Test.YtepidpcdbdbemaaDoorWGuard
import Derived.Test.YtepidpcdbdbemaaDoorWNEv
import Derived.Test.YtepidpcdbdbemaaDoorWMore
namespace Go.Proofs.YtepidpcdbdbemaaDoor.B
open Go.RowKit Go.Proofs.YtepidpcdbdbemaaDoorW.PrintWords Go.Proofs.YtepidpcdbdbemaaDoorW.PrintLast Go.Proofs.YtepidpcdbdbemaaDoorW.PrintMore
attribute [local go_sem] max2_int min2_int max_two min_two max_three min_three max_four min_four   -- for this text's walks alone
set_option linter.unusedVariables false
set_option linter.unusedSimpArgs false



def errW : Option Int → Value
  | none => .nilIface
  | some c => .iface 0 (.int .i64 c)
theorem errW_none : errW none = .nilIface := rfl
theorem errW_some (c : Int) : errW (some c) = .iface 0 (.int .i64 c) := rfl

-- the values' own types

end Go.Proofs.YtepidpcdbdbemaaDoor.B
