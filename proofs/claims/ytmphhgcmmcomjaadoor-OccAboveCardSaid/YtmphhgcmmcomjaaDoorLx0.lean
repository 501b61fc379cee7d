/- Lean functions for the Go functions of one law, and proofs that the calls come to them: made by a program of this session (wip/tools/plug.py) over the printer of the kit; no conditions. -/
import Derived.Test.YtmphhgcmmcomjaaDoorProg
import Derived.Below
import Derived.Deep.Draws
import Derived.Deep.AppendLies
import Derived.Maps.AppendAt
import Derived.OwnWalk
import Derived.Laws.BytesArg
import Derived.Laws.MakeOwn
import Derived.Laws.OwnMore
import Derived.Deep.OwnRows
import Derived.Tactics
import Derived.Lib.ConvBytes
import Derived.Laws.Slices
import Derived.WalkKit
import Derived.KernelRfl
import Derived.RowKit3
import Derived.Deep.LoopGhost
import Derived.Deep.QuietTactic
import Derived.BigQuiet
import Derived.WideLaws
import Derived.Deep.DeepCutAuto
import Derived.Deep.CutBlock
import Derived.Deep.RegionHeld3
import Derived.Laws.Rows
import Derived.Lib.AppendStr
import Derived.ArgAppend
import Derived.Laws.IdiomCopy
import Derived.OrdersHeld
import Derived.Laws.BitsLemmas
import Derived.RowKit
import Derived.WalkMore
import Derived.Test.YtmphhgcmmcomjaaDoorWWords
import Derived.Test.YtmphhgcmmcomjaaDoorWLast
import Derived.Test.YtmphhgcmmcomjaaDoorWTab
import Derived.Test.YtmphhgcmmcomjaaDoorWFour
import Derived.Test.YtmphhgcmmcomjaaDoorWQPut
import Derived.Test.YtmphhgcmmcomjaaDoorWApart
import Derived.Test.YtmphhgcmmcomjaaDoorWArr
import Derived.Test.YtmphhgcmmcomjaaDoorWZeros
import Derived.Test.YtmphhgcmmcomjaaDoorWFoot
import Derived.Test.YtmphhgcmmcomjaaDoorWKept
import Derived.Test.YtmphhgcmmcomjaaDoorWShare
import Derived.Test.YtmphhgcmmcomjaaDoorWN
import Derived.Test.YtmphhgcmmcomjaaDoorWFootNe
import Derived.Test.YtmphhgcmmcomjaaDoorWAt
import Derived.Test.YtmphhgcmmcomjaaDoorWEqStruct
import Derived.Test.YtmphhgcmmcomjaaDoorWRepsOne
import Derived.Test.YtmphhgcmmcomjaaDoorWInv
import Derived.Test.YtmphhgcmmcomjaaDoorWInvWords
import Derived.Test.YtmphhgcmmcomjaaDoorWGuard
import Derived.Test.YtmphhgcmmcomjaaDoorWNEv
import Derived.Test.YtmphhgcmmcomjaaDoorWMore
import Derived.Test.YtmphhgcmmcomjaaDoorBx0
import Derived.Test.YtmphhgcmmcomjaaDoorSx0
namespace Go.Proofs.YtmphhgcmmcomjaaDoor.B
open Go.RowKit Go.Proofs.YtmphhgcmmcomjaaDoorW.PrintWords Go.Proofs.YtmphhgcmmcomjaaDoorW.PrintLast Go.Proofs.YtmphhgcmmcomjaaDoorW.PrintMore
attribute [local go_sem] max2_int min2_int max_two min_two max_three min_three max_four min_four   -- for this text's walks alone
set_option linter.unusedVariables false
set_option linter.unusedSimpArgs false




theorem info30 : (Tryd.prog.info? 30).map (fun i => (i.zero, i.size, i.bytes)) = some (some (.agg #[(.int .i64 0), (.int .i64 0), (.int .i64 0), (.int .i64 0)]), 4, 32) := by kernel_rfl
-- the values' own types
/-! #### struct type 30 -/

end Go.Proofs.YtmphhgcmmcomjaaDoor.B
