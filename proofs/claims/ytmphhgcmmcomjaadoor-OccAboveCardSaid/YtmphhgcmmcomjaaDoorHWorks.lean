/- Proved: occ.At of two fixed servers at three ticks, so that the law's own check is passed; At as a plain function. No conditions. -/
import Derived.Test.YtmphhgcmmcomjaaDoorHAt
namespace Go.Proofs.YtmphhgcmmcomjaaDoor.B
open Go.RowKit Go.Proofs.YtmphhgcmmcomjaaDoorW.PrintWords Go.Proofs.YtmphhgcmmcomjaaDoorW.PrintLast Go.Proofs.YtmphhgcmmcomjaaDoorW.PrintMore

def twoL : List S30 := [⟨5, 2, 4, 9⟩, ⟨10, 6, 0, 1⟩]
theorem two_hyp : hypS lcmF twoL = (10, 0) := by decide +kernel
theorem two_18 : occ_At.f twoL 18 = some (2, 0) := by decide +kernel
theorem two_8 : occ_At.f twoL 8 = some (0, 0) := by decide +kernel
theorem two_4 : occ_At.f twoL 4 = some (1, 0) := by decide +kernel

/-- At, where it answers. -/
theorem at_ok {l : List S30} (h : (hypS lcmF l).2 = 0) (t : Nat) (ht : (t : Int) < 1099511627776) : occ_At.f l (t : Int) = some ((((sv l).occ t : Nat) : Int), 0) := by
  unfold occ_At.f
  rw [if_pos h, if_neg (by omega), Int.toNat_natCast]
end Go.Proofs.YtmphhgcmmcomjaaDoor.B
