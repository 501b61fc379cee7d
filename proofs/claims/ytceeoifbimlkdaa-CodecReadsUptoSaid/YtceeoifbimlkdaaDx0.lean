/- Lean functions for the Go functions of one law, and proofs that the calls come to them: made by a program of this session (wip/tools/plug.py) over the printer of the kit; no conditions. -/
import Derived.Test.YtceeoifbimlkdaaProg
import Derived.Below
import Derived.Deep.Draws
import Derived.Deep.AppendLies
import Derived.Maps.AppendAt
import Derived.OwnWalk
import Derived.Laws.BytesArg
import Derived.Laws.MakeOwn
import Derived.Laws.OwnMore
import Derived.Deep.OwnRows
import Derived.Tactics
import Derived.Lib.ConvBytes
import Derived.Laws.Slices
import Derived.WalkKit
import Derived.KernelRfl
import Derived.RowKit3
import Derived.Deep.LoopGhost
import Derived.Deep.QuietTactic
import Derived.BigQuiet
import Derived.WideLaws
import Derived.Deep.DeepCutAuto
import Derived.Deep.CutBlock
import Derived.Deep.RegionHeld3
import Derived.Laws.Rows
import Derived.Lib.AppendStr
import Derived.ArgAppend
import Derived.Laws.IdiomCopy
import Derived.OrdersHeld
import Derived.Laws.BitsLemmas
import Derived.RowKit
import Derived.WalkMore
import Derived.Test.YtceeoifbimlkdaaWWords
import Derived.Test.YtceeoifbimlkdaaWLast
import Derived.Test.YtceeoifbimlkdaaWTab
import Derived.Test.YtceeoifbimlkdaaWFour
import Derived.Test.YtceeoifbimlkdaaWQPut
import Derived.Test.YtceeoifbimlkdaaWApart
import Derived.Test.YtceeoifbimlkdaaWArr
import Derived.Test.YtceeoifbimlkdaaWZeros
import Derived.Test.YtceeoifbimlkdaaWFoot
import Derived.Test.YtceeoifbimlkdaaWKept
import Derived.Test.YtceeoifbimlkdaaWShare
import Derived.Test.YtceeoifbimlkdaaWN
import Derived.Test.YtceeoifbimlkdaaWFootNe
import Derived.Test.YtceeoifbimlkdaaWAt
import Derived.Test.YtceeoifbimlkdaaWEqStruct
import Derived.Test.YtceeoifbimlkdaaWRepsOne
import Derived.Test.YtceeoifbimlkdaaWInv
import Derived.Test.YtceeoifbimlkdaaWInvWords
import Derived.Test.YtceeoifbimlkdaaWGuard
import Derived.Test.YtceeoifbimlkdaaWNEv
import Derived.Test.YtceeoifbimlkdaaWMore
import Derived.Test.YtceeoifbimlkdaaCx0
namespace Go.Proofs.Ytceeoifbimlkdaa.B
open Go.RowKit Go.Proofs.YtceeoifbimlkdaaW.PrintWords Go.Proofs.YtceeoifbimlkdaaW.PrintLast Go.Proofs.YtceeoifbimlkdaaW.PrintMore
attribute [local go_sem] max2_int min2_int max_two min_two max_three min_three max_four min_four   -- for this text's walks alone
set_option linter.unusedVariables false
set_option linter.unusedSimpArgs false





-- the values' own types

end Go.Proofs.Ytceeoifbimlkdaa.B
