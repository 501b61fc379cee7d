/-
  No cell of these rows narrows 'for every input' (looked for: loops, veiled, ifaces, maps, wideKeys, modest, calm, conditions, laid).
  DERIVED. THE GIVEN ROWS OF THIS SEAT. 5 by the template 'for every input the law returns true; each argument reads behind the call as it read before'; 0 by the template 'total and deterministic' (their statements: YtfnlankpdnkmoaaTotals.lean).
  GIVEN WITH THE SEED: the statements are not yours to turn. If you find one false, say at which input.
  Laid BY PROGRAM, IN A SANDBOX (cutbox-rows.mjs): the forced cells as the released guide's own fill.sh prints them over the translation 9d6e4e83196e4482… (all of the seat's roots in one cut). By AI agents, Wed Nov 11 2026. No macro, syntax, notation, axiom, sorry.
-/
import Derived.Test.YtfnlankpdnkmoaaChecked
import GoSem.Claim
import GoSem.ClaimJoined
import GoSem.ClaimMapViews
import Derived.JoinedTies
import Derived.KernelRfl
namespace Go.Proofs.Ytfnlankpdnkmoaa
/- THE CELL 'sum', in the pinned program and in every row, IS THE sha256 OF THE DUMP (.gsa) THAT YtfnlankpdnkmoaaProg.lean LOADS. Nothing in Lean hashes anything: it is a label: what it is worth is what the hold of that sum in a sandbox is worth. -/
noncomputable def Try.pinned : Pinned := { name := "ytfnlankpdnkmoaa", sum := "9d6e4e83196e4482614ba3bf04650859f06d8883a7dc942f23a31f14a2b054ce", checked := Try.checked }
namespace Rows
def none {H : Type} : Left H := { results := [], args := [] }

/-- 'bulkheadlaw15.ProcTimers': WHATEVER THE INPUT: true; the input reads as it did. -/
def procTimersSpec : ChangeSpec := { name := "procTimers", fn := fun _ => fun
  | [d1, d2, d3, d4, d5] => { results := [.lit (.bool true)], args := [d1, d2, d3, d4, d5] }
  | _ => none }
def procTimersRow : OpenClaim := { program := "ytfnlankpdnkmoaa", sum := "9d6e4e83196e4482614ba3bf04650859f06d8883a7dc942f23a31f14a2b054ce", func := "bulkhead/bulkheadlaw15.ProcTimers", spec := "procTimers", unfollowed := true, recurses := true, apart := false }
def ProcTimersSaid : Prop := procTimersRow.holds Try.pinned (OpenSpec.ofChange procTimersSpec)

/-- ITS FALSE NEIGHBOUR: 'it returns false'. Refute it at one input. -/
def procTimersWrong : ChangeSpec := { name := "procTimers", fn := fun _ => fun
  | [d1, d2, d3, d4, d5] => { results := [.lit (.bool false)], args := [d1, d2, d3, d4, d5] }
  | _ => none }
def ProcTimersWrongFalsely : Prop := procTimersRow.holds Try.pinned (OpenSpec.ofChange procTimersWrong)

/-- 'bulkheadlaw15.ProcJobs': WHATEVER THE INPUT: true; the input reads as it did. -/
def procJobsSpec : ChangeSpec := { name := "procJobs", fn := fun _ => fun
  | [d1, d2, d3, d4] => { results := [.lit (.bool true)], args := [d1, d2, d3, d4] }
  | _ => none }
def procJobsRow : OpenClaim := { program := "ytfnlankpdnkmoaa", sum := "9d6e4e83196e4482614ba3bf04650859f06d8883a7dc942f23a31f14a2b054ce", func := "bulkhead/bulkheadlaw15.ProcJobs", spec := "procJobs", unfollowed := true, recurses := true, apart := false }
def ProcJobsSaid : Prop := procJobsRow.holds Try.pinned (OpenSpec.ofChange procJobsSpec)

/-- ITS FALSE NEIGHBOUR: 'it returns false'. Refute it at one input. -/
def procJobsWrong : ChangeSpec := { name := "procJobs", fn := fun _ => fun
  | [d1, d2, d3, d4] => { results := [.lit (.bool false)], args := [d1, d2, d3, d4] }
  | _ => none }
def ProcJobsWrongFalsely : Prop := procJobsRow.holds Try.pinned (OpenSpec.ofChange procJobsWrong)

/-- 'bulkheadlaw15.ProcSound': WHATEVER THE INPUT: true; the input reads as it did. -/
def procSoundSpec : ChangeSpec := { name := "procSound", fn := fun _ => fun
  | [d1, d2] => { results := [.lit (.bool true)], args := [d1, d2] }
  | _ => none }
def procSoundRow : OpenClaim := { program := "ytfnlankpdnkmoaa", sum := "9d6e4e83196e4482614ba3bf04650859f06d8883a7dc942f23a31f14a2b054ce", func := "bulkhead/bulkheadlaw15.ProcSound", spec := "procSound", unfollowed := true, recurses := true, apart := false }
def ProcSoundSaid : Prop := procSoundRow.holds Try.pinned (OpenSpec.ofChange procSoundSpec)

/-- ITS FALSE NEIGHBOUR: 'it returns false'. Refute it at one input. -/
def procSoundWrong : ChangeSpec := { name := "procSound", fn := fun _ => fun
  | [d1, d2] => { results := [.lit (.bool false)], args := [d1, d2] }
  | _ => none }
def ProcSoundWrongFalsely : Prop := procSoundRow.holds Try.pinned (OpenSpec.ofChange procSoundWrong)

/-- 'bulkheadlaw15.ProcApart': WHATEVER THE INPUT: true; the input reads as it did. -/
def procApartSpec : ChangeSpec := { name := "procApart", fn := fun _ => fun
  | [d1, d2] => { results := [.lit (.bool true)], args := [d1, d2] }
  | _ => none }
def procApartRow : OpenClaim := { program := "ytfnlankpdnkmoaa", sum := "9d6e4e83196e4482614ba3bf04650859f06d8883a7dc942f23a31f14a2b054ce", func := "bulkhead/bulkheadlaw15.ProcApart", spec := "procApart", unfollowed := true, recurses := true, apart := false }
def ProcApartSaid : Prop := procApartRow.holds Try.pinned (OpenSpec.ofChange procApartSpec)

/-- ITS FALSE NEIGHBOUR: 'it returns false'. Refute it at one input. -/
def procApartWrong : ChangeSpec := { name := "procApart", fn := fun _ => fun
  | [d1, d2] => { results := [.lit (.bool false)], args := [d1, d2] }
  | _ => none }
def ProcApartWrongFalsely : Prop := procApartRow.holds Try.pinned (OpenSpec.ofChange procApartWrong)

/-- 'bulkheadlaw15.ProcFair': WHATEVER THE INPUT: true; the input reads as it did. -/
def procFairSpec : ChangeSpec := { name := "procFair", fn := fun _ => fun
  | [d1, d2, d3] => { results := [.lit (.bool true)], args := [d1, d2, d3] }
  | _ => none }
def procFairRow : OpenClaim := { program := "ytfnlankpdnkmoaa", sum := "9d6e4e83196e4482614ba3bf04650859f06d8883a7dc942f23a31f14a2b054ce", func := "bulkhead/bulkheadlaw15.ProcFair", spec := "procFair", unfollowed := true, recurses := true, apart := false }
def ProcFairSaid : Prop := procFairRow.holds Try.pinned (OpenSpec.ofChange procFairSpec)

/-- ITS FALSE NEIGHBOUR: 'it returns false'. Refute it at one input. -/
def procFairWrong : ChangeSpec := { name := "procFair", fn := fun _ => fun
  | [d1, d2, d3] => { results := [.lit (.bool false)], args := [d1, d2, d3] }
  | _ => none }
def ProcFairWrongFalsely : Prop := procFairRow.holds Try.pinned (OpenSpec.ofChange procFairWrong)

/- THE SECOND FORM. 'bulk': how many values and letters a reading holds, each counted each time it is reached (what is shared counts as often as it is met; a slice's spare places count too). A statement '..UptoSaid' is the law's where the arguments, and the package variables that the reading takes, are together of bulk at most 1048576: NARROWER than '..Said'. Prove '..Said' where nothing that the law and all that it calls make is longer than what came in: it says more and counts as full. Else prove '..UptoSaid'. A law counts once. -/
mutual
def uptoBulk {H : Type} : DataW H → Nat
  | .lit (.string bytes) => bytes.length + 1
  | .lit _ => 1
  | .nil => 1
  | .ptr d => uptoBulk d + 1
  | .slice elems spare => uptoBulkAll elems + uptoBulkAll spare + 1
  | .agg parts => uptoBulkAll parts + 1
  | .iface _ d => uptoBulk d + 1
  | .map entries => uptoBulkEntries entries + 1
  | .held _ => 1
def uptoBulkAll {H : Type} : List (DataW H) → Nat
  | [] => 0
  | d :: r => uptoBulk d + uptoBulkAll r
def uptoBulkEntries {H : Type} : List (Lit × DataW H) → Nat
  | [] => 0
  | x :: r => uptoBulkEntry x + uptoBulkEntries r
def uptoBulkEntry {H : Type} : Lit × DataW H → Nat
  | (.string bytes, d) => bytes.length + uptoBulk d + 1
  | (_, d) => uptoBulk d + 1
 end
def uptoSmall : (H : Type) → List (DataW H) → Bool := fun _ ds => decide (uptoBulkAll ds ≤ 1048576)
def OpenSpec.upto (s : _root_.Go.ChangeSpec) : _root_.Go.OpenSpec := { _root_.Go.OpenSpec.ofChange s with cond := some uptoSmall }

/-- 'bulkheadlaw15.ProcTimers', WHERE WHAT IT READS IS OF BULK AT MOST 1048576: true; the input reads as it did. -/
def procTimersUptoRow : OpenClaim := { program := "ytfnlankpdnkmoaa", sum := "9d6e4e83196e4482614ba3bf04650859f06d8883a7dc942f23a31f14a2b054ce", func := "bulkhead/bulkheadlaw15.ProcTimers", spec := "procTimers", unfollowed := true, recurses := true, apart := false, narrowed := true }
def ProcTimersUptoSaid : Prop := procTimersUptoRow.holds Try.pinned (OpenSpec.upto procTimersSpec)

/-- 'bulkheadlaw15.ProcJobs', WHERE WHAT IT READS IS OF BULK AT MOST 1048576: true; the input reads as it did. -/
def procJobsUptoRow : OpenClaim := { program := "ytfnlankpdnkmoaa", sum := "9d6e4e83196e4482614ba3bf04650859f06d8883a7dc942f23a31f14a2b054ce", func := "bulkhead/bulkheadlaw15.ProcJobs", spec := "procJobs", unfollowed := true, recurses := true, apart := false, narrowed := true }
def ProcJobsUptoSaid : Prop := procJobsUptoRow.holds Try.pinned (OpenSpec.upto procJobsSpec)

/-- 'bulkheadlaw15.ProcSound', WHERE WHAT IT READS IS OF BULK AT MOST 1048576: true; the input reads as it did. -/
def procSoundUptoRow : OpenClaim := { program := "ytfnlankpdnkmoaa", sum := "9d6e4e83196e4482614ba3bf04650859f06d8883a7dc942f23a31f14a2b054ce", func := "bulkhead/bulkheadlaw15.ProcSound", spec := "procSound", unfollowed := true, recurses := true, apart := false, narrowed := true }
def ProcSoundUptoSaid : Prop := procSoundUptoRow.holds Try.pinned (OpenSpec.upto procSoundSpec)

/-- 'bulkheadlaw15.ProcApart', WHERE WHAT IT READS IS OF BULK AT MOST 1048576: true; the input reads as it did. -/
def procApartUptoRow : OpenClaim := { program := "ytfnlankpdnkmoaa", sum := "9d6e4e83196e4482614ba3bf04650859f06d8883a7dc942f23a31f14a2b054ce", func := "bulkhead/bulkheadlaw15.ProcApart", spec := "procApart", unfollowed := true, recurses := true, apart := false, narrowed := true }
def ProcApartUptoSaid : Prop := procApartUptoRow.holds Try.pinned (OpenSpec.upto procApartSpec)

/-- 'bulkheadlaw15.ProcFair', WHERE WHAT IT READS IS OF BULK AT MOST 1048576: true; the input reads as it did. -/
def procFairUptoRow : OpenClaim := { program := "ytfnlankpdnkmoaa", sum := "9d6e4e83196e4482614ba3bf04650859f06d8883a7dc942f23a31f14a2b054ce", func := "bulkhead/bulkheadlaw15.ProcFair", spec := "procFair", unfollowed := true, recurses := true, apart := false, narrowed := true }
def ProcFairUptoSaid : Prop := procFairUptoRow.holds Try.pinned (OpenSpec.upto procFairSpec)

end Rows
end Go.Proofs.Ytfnlankpdnkmoaa
