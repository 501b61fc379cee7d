/- Lean functions for the Go functions of one law, and proofs that the calls come to them: made by a program of this session (wip/tools/plug.py) over the printer of the kit; no conditions. -/
import Derived.Test.YtepidpcdbdbemaaDoorProg
import Derived.Below
import Derived.Deep.Draws
import Derived.Deep.AppendLies
import Derived.Maps.AppendAt
import Derived.OwnWalk
import Derived.Laws.BytesArg
import Derived.Laws.MakeOwn
import Derived.Laws.OwnMore
import Derived.Deep.OwnRows
import Derived.Tactics
import Derived.Lib.ConvBytes
import Derived.Laws.Slices
import Derived.WalkKit
import Derived.KernelRfl
import Derived.RowKit3
import Derived.Deep.LoopGhost
import Derived.Deep.QuietTactic
import Derived.BigQuiet
import Derived.WideLaws
import Derived.Deep.DeepCutAuto
import Derived.Deep.CutBlock
import Derived.Deep.RegionHeld3
import Derived.Laws.Rows
import Derived.Lib.AppendStr
import Derived.ArgAppend
import Derived.Laws.IdiomCopy
import Derived.OrdersHeld
import Derived.Laws.BitsLemmas
import Derived.RowKit
import Derived.WalkMore
import Derived.Test.YtepidpcdbdbemaaDoorWWords
import Derived.Test.YtepidpcdbdbemaaDoorWLast
import Derived.Test.YtepidpcdbdbemaaDoorWTab
import Derived.Test.YtepidpcdbdbemaaDoorWFour
import Derived.Test.YtepidpcdbdbemaaDoorWQPut
import Derived.Test.YtepidpcdbdbemaaDoorWApart
import Derived.Test.YtepidpcdbdbemaaDoorWArr
import Derived.Test.YtepidpcdbdbemaaDoorWZeros
import Derived.Test.YtepidpcdbdbemaaDoorWFoot
import Derived.Test.YtepidpcdbdbemaaDoorWKept
import Derived.Test.YtepidpcdbdbemaaDoorWShare
import Derived.Test.YtepidpcdbdbemaaDoorWN
import Derived.Test.YtepidpcdbdbemaaDoorWFootNe
import Derived.Test.YtepidpcdbdbemaaDoorWAt
import Derived.Test.YtepidpcdbdbemaaDoorWEqStruct
import Derived.Test.YtepidpcdbdbemaaDoorWRepsOne
import Derived.Test.YtepidpcdbdbemaaDoorWInv
import Derived.Test.YtepidpcdbdbemaaDoorWInvWords
import Derived.Test.YtepidpcdbdbemaaDoorWGuard
import Derived.Test.YtepidpcdbdbemaaDoorWNEv
import Derived.Test.YtepidpcdbdbemaaDoorWMore
import Derived.Test.YtepidpcdbdbemaaDoorAx0
import Derived.Test.YtepidpcdbdbemaaDoorBx0
namespace Go.Proofs.YtepidpcdbdbemaaDoor.B
open Go.RowKit Go.Proofs.YtepidpcdbdbemaaDoorW.PrintWords Go.Proofs.YtepidpcdbdbemaaDoorW.PrintLast Go.Proofs.YtepidpcdbdbemaaDoorW.PrintMore
attribute [local go_sem] max2_int min2_int max_two min_two max_three min_three max_four min_four   -- for this text's walks alone
set_option linter.unusedVariables false
set_option linter.unusedSimpArgs false





theorem info25 : (Tryd.prog.info? 25).map (fun i => (i.zero, i.size, i.bytes)) = some (some (.agg #[(.int .i64 0), (.int .i64 0), (.int .i64 0), (.int .i64 0)]), 4, 32) := by kernel_rfl
-- the values' own types
/-! #### struct type 25 -/
def rd_L2 (xs : List (List S25)) (i : Int) : (List S25) := xs.getD i.toNat ([] : List S25)
theorem at_L2 {w : World} {A : Option Addr} {n : Nat} {xs : List (List S25)} (h : Kd.C (Kd.slice 25 k25) w A n xs) (i : Int) (h0 : 0 ≤ i) (h1 : i < n) : ∃ ad A0 c0, A = some ad ∧ w.cell? (ad.add i.toNat) = some (.slice A0 (rd_L2 xs i).length c0) ∧ (rd_L2 xs i).length ≤ c0 ∧ k25.C w A0 (rd_L2 xs i).length (rd_L2 xs i) := by
  obtain ⟨ad, c, e, _, hK, hc0⟩ := Kd.C_get h ([] : List S25) i h0 h1
  have hc : ∀ j u, c[j]? = some u → w.cell? (ad.add (i.toNat * 1 + j)) = some u := hc0
  obtain ⟨A0, c0, rfl, l0, g0⟩ := hK
  exact ⟨ad, A0, c0, e, by have hq := hc 0 _ rfl; rwa [Nat.mul_one, Nat.add_zero] at hq, l0, g0⟩

end Go.Proofs.YtepidpcdbdbemaaDoor.B
