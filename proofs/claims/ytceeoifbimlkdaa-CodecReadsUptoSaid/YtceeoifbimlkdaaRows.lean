/-
  No cell of these rows narrows 'for every input' (looked for: loops, veiled, ifaces, maps, wideKeys, modest, calm, conditions, laid).
  DERIVED. THE GIVEN ROWS OF THIS SEAT. 11 by the template 'for every input the law returns true; each argument reads behind the call as it read before'; 0 by the template 'total and deterministic' (their statements: YtceeoifbimlkdaaTotals.lean).
  GIVEN WITH THE SEED: the statements are not yours to turn. If you find one false, say at which input.
  Laid BY PROGRAM, IN A SANDBOX (cutbox-rows.mjs): the forced cells as the released guide's own fill.sh prints them over the translation db5f0f03b468a09c… (all of the seat's roots in one cut). By AI agents, Wed Nov 11 2026. No macro, syntax, notation, axiom, sorry.
-/
import Derived.Test.YtceeoifbimlkdaaChecked
import GoSem.Claim
import GoSem.ClaimJoined
import GoSem.ClaimMapViews
import Derived.JoinedTies
import Derived.KernelRfl
namespace Go.Proofs.Ytceeoifbimlkdaa
/- THE CELL 'sum', in the pinned program and in every row, IS THE sha256 OF THE DUMP (.gsa) THAT YtceeoifbimlkdaaProg.lean LOADS. Nothing in Lean hashes anything: it is a label: what it is worth is what the hold of that sum in a sandbox is worth. -/
noncomputable def Try.pinned : Pinned := { name := "ytceeoifbimlkdaa", sum := "db5f0f03b468a09cae7d35aa4918d749fb107f169532453520323d5354b7fb1e", checked := Try.checked }
namespace Rows
def none {H : Type} : Left H := { results := [], args := [] }

/-- 'bulkheadlaw01.NumLater': WHATEVER THE INPUT: true; the input reads as it did. -/
def numLaterSpec : ChangeSpec := { name := "numLater", fn := fun _ => fun
  | [d1, d2, d3] => { results := [.lit (.bool true)], args := [d1, d2, d3] }
  | _ => none }
def numLaterRow : OpenClaim := { program := "ytceeoifbimlkdaa", sum := "db5f0f03b468a09cae7d35aa4918d749fb107f169532453520323d5354b7fb1e", func := "bulkhead/bulkheadlaw01.NumLater", spec := "numLater", apart := false }
def NumLaterSaid : Prop := numLaterRow.holds Try.pinned (OpenSpec.ofChange numLaterSpec)

/-- ITS FALSE NEIGHBOUR: 'it returns false'. Refute it at one input. -/
def numLaterWrong : ChangeSpec := { name := "numLater", fn := fun _ => fun
  | [d1, d2, d3] => { results := [.lit (.bool false)], args := [d1, d2, d3] }
  | _ => none }
def NumLaterWrongFalsely : Prop := numLaterRow.holds Try.pinned (OpenSpec.ofChange numLaterWrong)

/-- 'bulkheadlaw01.NumTicks': WHATEVER THE INPUT: true; the input reads as it did. -/
def numTicksSpec : ChangeSpec := { name := "numTicks", fn := fun _ => fun
  | [d1, d2, d3, d4, d5] => { results := [.lit (.bool true)], args := [d1, d2, d3, d4, d5] }
  | _ => none }
def numTicksRow : OpenClaim := { program := "ytceeoifbimlkdaa", sum := "db5f0f03b468a09cae7d35aa4918d749fb107f169532453520323d5354b7fb1e", func := "bulkhead/bulkheadlaw01.NumTicks", spec := "numTicks", apart := false }
def NumTicksSaid : Prop := numTicksRow.holds Try.pinned (OpenSpec.ofChange numTicksSpec)

/-- ITS FALSE NEIGHBOUR: 'it returns false'. Refute it at one input. -/
def numTicksWrong : ChangeSpec := { name := "numTicks", fn := fun _ => fun
  | [d1, d2, d3, d4, d5] => { results := [.lit (.bool false)], args := [d1, d2, d3, d4, d5] }
  | _ => none }
def NumTicksWrongFalsely : Prop := numTicksRow.holds Try.pinned (OpenSpec.ofChange numTicksWrong)

/-- 'bulkheadlaw01.NumLeast': WHATEVER THE INPUT: true; the input reads as it did. -/
def numLeastSpec : ChangeSpec := { name := "numLeast", fn := fun _ => fun
  | [d1, d2, d3, d4, d5, d6] => { results := [.lit (.bool true)], args := [d1, d2, d3, d4, d5, d6] }
  | _ => none }
def numLeastRow : OpenClaim := { program := "ytceeoifbimlkdaa", sum := "db5f0f03b468a09cae7d35aa4918d749fb107f169532453520323d5354b7fb1e", func := "bulkhead/bulkheadlaw01.NumLeast", spec := "numLeast", apart := false }
def NumLeastSaid : Prop := numLeastRow.holds Try.pinned (OpenSpec.ofChange numLeastSpec)

/-- ITS FALSE NEIGHBOUR: 'it returns false'. Refute it at one input. -/
def numLeastWrong : ChangeSpec := { name := "numLeast", fn := fun _ => fun
  | [d1, d2, d3, d4, d5, d6] => { results := [.lit (.bool false)], args := [d1, d2, d3, d4, d5, d6] }
  | _ => none }
def NumLeastWrongFalsely : Prop := numLeastRow.holds Try.pinned (OpenSpec.ofChange numLeastWrong)

/-- 'bulkheadlaw01.NumDivides': WHATEVER THE INPUT: true; the input reads as it did. -/
def numDividesSpec : ChangeSpec := { name := "numDivides", fn := fun _ => fun
  | [d1, d2] => { results := [.lit (.bool true)], args := [d1, d2] }
  | _ => none }
def numDividesRow : OpenClaim := { program := "ytceeoifbimlkdaa", sum := "db5f0f03b468a09cae7d35aa4918d749fb107f169532453520323d5354b7fb1e", func := "bulkhead/bulkheadlaw01.NumDivides", spec := "numDivides", apart := false }
def NumDividesSaid : Prop := numDividesRow.holds Try.pinned (OpenSpec.ofChange numDividesSpec)

/-- ITS FALSE NEIGHBOUR: 'it returns false'. Refute it at one input. -/
def numDividesWrong : ChangeSpec := { name := "numDivides", fn := fun _ => fun
  | [d1, d2] => { results := [.lit (.bool false)], args := [d1, d2] }
  | _ => none }
def NumDividesWrongFalsely : Prop := numDividesRow.holds Try.pinned (OpenSpec.ofChange numDividesWrong)

/-- 'bulkheadlaw02.CodecSeals': WHATEVER THE INPUT: true; the input reads as it did. -/
def codecSealsSpec : ChangeSpec := { name := "codecSeals", fn := fun _ => fun
  | [d1, d2, d3] => { results := [.lit (.bool true)], args := [d1, d2, d3] }
  | _ => none }
def codecSealsRow : OpenClaim := { program := "ytceeoifbimlkdaa", sum := "db5f0f03b468a09cae7d35aa4918d749fb107f169532453520323d5354b7fb1e", func := "bulkhead/bulkheadlaw02.CodecSeals", spec := "codecSeals", apart := false }
def CodecSealsSaid : Prop := codecSealsRow.holds Try.pinned (OpenSpec.ofChange codecSealsSpec)

/-- ITS FALSE NEIGHBOUR: 'it returns false'. Refute it at one input. -/
def codecSealsWrong : ChangeSpec := { name := "codecSeals", fn := fun _ => fun
  | [d1, d2, d3] => { results := [.lit (.bool false)], args := [d1, d2, d3] }
  | _ => none }
def CodecSealsWrongFalsely : Prop := codecSealsRow.holds Try.pinned (OpenSpec.ofChange codecSealsWrong)

/-- 'bulkheadlaw02.CodecWrites': WHATEVER THE INPUT: true; the input reads as it did. -/
def codecWritesSpec : ChangeSpec := { name := "codecWrites", fn := fun _ => fun
  | [d] => { results := [.lit (.bool true)], args := [d] }
  | _ => none }
def codecWritesRow : OpenClaim := { program := "ytceeoifbimlkdaa", sum := "db5f0f03b468a09cae7d35aa4918d749fb107f169532453520323d5354b7fb1e", func := "bulkhead/bulkheadlaw02.CodecWrites", spec := "codecWrites", unfollowed := true, recurses := true, apart := false }
def CodecWritesSaid : Prop := codecWritesRow.holds Try.pinned (OpenSpec.ofChange codecWritesSpec)

/-- ITS FALSE NEIGHBOUR: 'it returns false'. Refute it at one input. -/
def codecWritesWrong : ChangeSpec := { name := "codecWrites", fn := fun _ => fun
  | [d] => { results := [.lit (.bool false)], args := [d] }
  | _ => none }
def CodecWritesWrongFalsely : Prop := codecWritesRow.holds Try.pinned (OpenSpec.ofChange codecWritesWrong)

/-- 'bulkheadlaw02.CodecReads': WHATEVER THE INPUT: true; the input reads as it did. -/
def codecReadsSpec : ChangeSpec := { name := "codecReads", fn := fun _ => fun
  | [d1, d2] => { results := [.lit (.bool true)], args := [d1, d2] }
  | _ => none }
def codecReadsRow : OpenClaim := { program := "ytceeoifbimlkdaa", sum := "db5f0f03b468a09cae7d35aa4918d749fb107f169532453520323d5354b7fb1e", func := "bulkhead/bulkheadlaw02.CodecReads", spec := "codecReads", unfollowed := true, recurses := true, apart := false }
def CodecReadsSaid : Prop := codecReadsRow.holds Try.pinned (OpenSpec.ofChange codecReadsSpec)

/-- ITS FALSE NEIGHBOUR: 'it returns false'. Refute it at one input. -/
def codecReadsWrong : ChangeSpec := { name := "codecReads", fn := fun _ => fun
  | [d1, d2] => { results := [.lit (.bool false)], args := [d1, d2] }
  | _ => none }
def CodecReadsWrongFalsely : Prop := codecReadsRow.holds Try.pinned (OpenSpec.ofChange codecReadsWrong)

/-- 'bulkheadlaw01.NumExact': WHATEVER THE INPUT: true; the input reads as it did. -/
def numExactSpec : ChangeSpec := { name := "numExact", fn := fun _ => fun
  | [d] => { results := [.lit (.bool true)], args := [d] }
  | _ => none }
def numExactRow : OpenClaim := { program := "ytceeoifbimlkdaa", sum := "db5f0f03b468a09cae7d35aa4918d749fb107f169532453520323d5354b7fb1e", func := "bulkhead/bulkheadlaw01.NumExact", spec := "numExact", apart := false }
def NumExactSaid : Prop := numExactRow.holds Try.pinned (OpenSpec.ofChange numExactSpec)

/-- ITS FALSE NEIGHBOUR: 'it returns false'. Refute it at one input. -/
def numExactWrong : ChangeSpec := { name := "numExact", fn := fun _ => fun
  | [d] => { results := [.lit (.bool false)], args := [d] }
  | _ => none }
def NumExactWrongFalsely : Prop := numExactRow.holds Try.pinned (OpenSpec.ofChange numExactWrong)

/-- 'bulkheadlaw02.CodecSealed': WHATEVER THE INPUT: true; the input reads as it did. -/
def codecSealedSpec : ChangeSpec := { name := "codecSealed", fn := fun _ => fun
  | [d1, d2, d3, d4, d5, d6] => { results := [.lit (.bool true)], args := [d1, d2, d3, d4, d5, d6] }
  | _ => none }
def codecSealedRow : OpenClaim := { program := "ytceeoifbimlkdaa", sum := "db5f0f03b468a09cae7d35aa4918d749fb107f169532453520323d5354b7fb1e", func := "bulkhead/bulkheadlaw02.CodecSealed", spec := "codecSealed", unfollowed := true, recurses := true, apart := false }
def CodecSealedSaid : Prop := codecSealedRow.holds Try.pinned (OpenSpec.ofChange codecSealedSpec)

/-- ITS FALSE NEIGHBOUR: 'it returns false'. Refute it at one input. -/
def codecSealedWrong : ChangeSpec := { name := "codecSealed", fn := fun _ => fun
  | [d1, d2, d3, d4, d5, d6] => { results := [.lit (.bool false)], args := [d1, d2, d3, d4, d5, d6] }
  | _ => none }
def CodecSealedWrongFalsely : Prop := codecSealedRow.holds Try.pinned (OpenSpec.ofChange codecSealedWrong)

/-- 'bulkheadlaw02.CodecAgain': WHATEVER THE INPUT: true; the input reads as it did. -/
def codecAgainSpec : ChangeSpec := { name := "codecAgain", fn := fun _ => fun
  | [d1, d2] => { results := [.lit (.bool true)], args := [d1, d2] }
  | _ => none }
def codecAgainRow : OpenClaim := { program := "ytceeoifbimlkdaa", sum := "db5f0f03b468a09cae7d35aa4918d749fb107f169532453520323d5354b7fb1e", func := "bulkhead/bulkheadlaw02.CodecAgain", spec := "codecAgain", unfollowed := true, recurses := true, apart := false }
def CodecAgainSaid : Prop := codecAgainRow.holds Try.pinned (OpenSpec.ofChange codecAgainSpec)

/-- ITS FALSE NEIGHBOUR: 'it returns false'. Refute it at one input. -/
def codecAgainWrong : ChangeSpec := { name := "codecAgain", fn := fun _ => fun
  | [d1, d2] => { results := [.lit (.bool false)], args := [d1, d2] }
  | _ => none }
def CodecAgainWrongFalsely : Prop := codecAgainRow.holds Try.pinned (OpenSpec.ofChange codecAgainWrong)

/-- 'bulkheadlaw02.CodecBack': WHATEVER THE INPUT: true; the input reads as it did. -/
def codecBackSpec : ChangeSpec := { name := "codecBack", fn := fun _ => fun
  | [d1, d2] => { results := [.lit (.bool true)], args := [d1, d2] }
  | _ => none }
def codecBackRow : OpenClaim := { program := "ytceeoifbimlkdaa", sum := "db5f0f03b468a09cae7d35aa4918d749fb107f169532453520323d5354b7fb1e", func := "bulkhead/bulkheadlaw02.CodecBack", spec := "codecBack", unfollowed := true, recurses := true, apart := false }
def CodecBackSaid : Prop := codecBackRow.holds Try.pinned (OpenSpec.ofChange codecBackSpec)

/-- ITS FALSE NEIGHBOUR: 'it returns false'. Refute it at one input. -/
def codecBackWrong : ChangeSpec := { name := "codecBack", fn := fun _ => fun
  | [d1, d2] => { results := [.lit (.bool false)], args := [d1, d2] }
  | _ => none }
def CodecBackWrongFalsely : Prop := codecBackRow.holds Try.pinned (OpenSpec.ofChange codecBackWrong)

/- THE SECOND FORM. 'bulk': how many values and letters a reading holds, each counted each time it is reached (what is shared counts as often as it is met; a slice's spare places count too). A statement '..UptoSaid' is the law's where the arguments, and the package variables that the reading takes, are together of bulk at most 1048576: NARROWER than '..Said'. Prove '..Said' where nothing that the law and all that it calls make is longer than what came in: it says more and counts as full. Else prove '..UptoSaid'. A law counts once. -/
mutual
def uptoBulk {H : Type} : DataW H → Nat
  | .lit (.string bytes) => bytes.length + 1
  | .lit _ => 1
  | .nil => 1
  | .ptr d => uptoBulk d + 1
  | .slice elems spare => uptoBulkAll elems + uptoBulkAll spare + 1
  | .agg parts => uptoBulkAll parts + 1
  | .iface _ d => uptoBulk d + 1
  | .map entries => uptoBulkEntries entries + 1
  | .held _ => 1
def uptoBulkAll {H : Type} : List (DataW H) → Nat
  | [] => 0
  | d :: r => uptoBulk d + uptoBulkAll r
def uptoBulkEntries {H : Type} : List (Lit × DataW H) → Nat
  | [] => 0
  | x :: r => uptoBulkEntry x + uptoBulkEntries r
def uptoBulkEntry {H : Type} : Lit × DataW H → Nat
  | (.string bytes, d) => bytes.length + uptoBulk d + 1
  | (_, d) => uptoBulk d + 1
 end
def uptoSmall : (H : Type) → List (DataW H) → Bool := fun _ ds => decide (uptoBulkAll ds ≤ 1048576)
def OpenSpec.upto (s : _root_.Go.ChangeSpec) : _root_.Go.OpenSpec := { _root_.Go.OpenSpec.ofChange s with cond := some uptoSmall }

/-- 'bulkheadlaw01.NumLater', WHERE WHAT IT READS IS OF BULK AT MOST 1048576: true; the input reads as it did. -/
def numLaterUptoRow : OpenClaim := { program := "ytceeoifbimlkdaa", sum := "db5f0f03b468a09cae7d35aa4918d749fb107f169532453520323d5354b7fb1e", func := "bulkhead/bulkheadlaw01.NumLater", spec := "numLater", apart := false, narrowed := true }
def NumLaterUptoSaid : Prop := numLaterUptoRow.holds Try.pinned (OpenSpec.upto numLaterSpec)

/-- 'bulkheadlaw01.NumTicks', WHERE WHAT IT READS IS OF BULK AT MOST 1048576: true; the input reads as it did. -/
def numTicksUptoRow : OpenClaim := { program := "ytceeoifbimlkdaa", sum := "db5f0f03b468a09cae7d35aa4918d749fb107f169532453520323d5354b7fb1e", func := "bulkhead/bulkheadlaw01.NumTicks", spec := "numTicks", apart := false, narrowed := true }
def NumTicksUptoSaid : Prop := numTicksUptoRow.holds Try.pinned (OpenSpec.upto numTicksSpec)

/-- 'bulkheadlaw01.NumLeast', WHERE WHAT IT READS IS OF BULK AT MOST 1048576: true; the input reads as it did. -/
def numLeastUptoRow : OpenClaim := { program := "ytceeoifbimlkdaa", sum := "db5f0f03b468a09cae7d35aa4918d749fb107f169532453520323d5354b7fb1e", func := "bulkhead/bulkheadlaw01.NumLeast", spec := "numLeast", apart := false, narrowed := true }
def NumLeastUptoSaid : Prop := numLeastUptoRow.holds Try.pinned (OpenSpec.upto numLeastSpec)

/-- 'bulkheadlaw01.NumDivides', WHERE WHAT IT READS IS OF BULK AT MOST 1048576: true; the input reads as it did. -/
def numDividesUptoRow : OpenClaim := { program := "ytceeoifbimlkdaa", sum := "db5f0f03b468a09cae7d35aa4918d749fb107f169532453520323d5354b7fb1e", func := "bulkhead/bulkheadlaw01.NumDivides", spec := "numDivides", apart := false, narrowed := true }
def NumDividesUptoSaid : Prop := numDividesUptoRow.holds Try.pinned (OpenSpec.upto numDividesSpec)

/-- 'bulkheadlaw02.CodecSeals', WHERE WHAT IT READS IS OF BULK AT MOST 1048576: true; the input reads as it did. -/
def codecSealsUptoRow : OpenClaim := { program := "ytceeoifbimlkdaa", sum := "db5f0f03b468a09cae7d35aa4918d749fb107f169532453520323d5354b7fb1e", func := "bulkhead/bulkheadlaw02.CodecSeals", spec := "codecSeals", apart := false, narrowed := true }
def CodecSealsUptoSaid : Prop := codecSealsUptoRow.holds Try.pinned (OpenSpec.upto codecSealsSpec)

/-- 'bulkheadlaw02.CodecWrites', WHERE WHAT IT READS IS OF BULK AT MOST 1048576: true; the input reads as it did. -/
def codecWritesUptoRow : OpenClaim := { program := "ytceeoifbimlkdaa", sum := "db5f0f03b468a09cae7d35aa4918d749fb107f169532453520323d5354b7fb1e", func := "bulkhead/bulkheadlaw02.CodecWrites", spec := "codecWrites", unfollowed := true, recurses := true, apart := false, narrowed := true }
def CodecWritesUptoSaid : Prop := codecWritesUptoRow.holds Try.pinned (OpenSpec.upto codecWritesSpec)

/-- 'bulkheadlaw02.CodecReads', WHERE WHAT IT READS IS OF BULK AT MOST 1048576: true; the input reads as it did. -/
def codecReadsUptoRow : OpenClaim := { program := "ytceeoifbimlkdaa", sum := "db5f0f03b468a09cae7d35aa4918d749fb107f169532453520323d5354b7fb1e", func := "bulkhead/bulkheadlaw02.CodecReads", spec := "codecReads", unfollowed := true, recurses := true, apart := false, narrowed := true }
def CodecReadsUptoSaid : Prop := codecReadsUptoRow.holds Try.pinned (OpenSpec.upto codecReadsSpec)

/-- 'bulkheadlaw01.NumExact', WHERE WHAT IT READS IS OF BULK AT MOST 1048576: true; the input reads as it did. -/
def numExactUptoRow : OpenClaim := { program := "ytceeoifbimlkdaa", sum := "db5f0f03b468a09cae7d35aa4918d749fb107f169532453520323d5354b7fb1e", func := "bulkhead/bulkheadlaw01.NumExact", spec := "numExact", apart := false, narrowed := true }
def NumExactUptoSaid : Prop := numExactUptoRow.holds Try.pinned (OpenSpec.upto numExactSpec)

/-- 'bulkheadlaw02.CodecSealed', WHERE WHAT IT READS IS OF BULK AT MOST 1048576: true; the input reads as it did. -/
def codecSealedUptoRow : OpenClaim := { program := "ytceeoifbimlkdaa", sum := "db5f0f03b468a09cae7d35aa4918d749fb107f169532453520323d5354b7fb1e", func := "bulkhead/bulkheadlaw02.CodecSealed", spec := "codecSealed", unfollowed := true, recurses := true, apart := false, narrowed := true }
def CodecSealedUptoSaid : Prop := codecSealedUptoRow.holds Try.pinned (OpenSpec.upto codecSealedSpec)

/-- 'bulkheadlaw02.CodecAgain', WHERE WHAT IT READS IS OF BULK AT MOST 1048576: true; the input reads as it did. -/
def codecAgainUptoRow : OpenClaim := { program := "ytceeoifbimlkdaa", sum := "db5f0f03b468a09cae7d35aa4918d749fb107f169532453520323d5354b7fb1e", func := "bulkhead/bulkheadlaw02.CodecAgain", spec := "codecAgain", unfollowed := true, recurses := true, apart := false, narrowed := true }
def CodecAgainUptoSaid : Prop := codecAgainUptoRow.holds Try.pinned (OpenSpec.upto codecAgainSpec)

/-- 'bulkheadlaw02.CodecBack', WHERE WHAT IT READS IS OF BULK AT MOST 1048576: true; the input reads as it did. -/
def codecBackUptoRow : OpenClaim := { program := "ytceeoifbimlkdaa", sum := "db5f0f03b468a09cae7d35aa4918d749fb107f169532453520323d5354b7fb1e", func := "bulkhead/bulkheadlaw02.CodecBack", spec := "codecBack", unfollowed := true, recurses := true, apart := false, narrowed := true }
def CodecBackUptoSaid : Prop := codecBackUptoRow.holds Try.pinned (OpenSpec.upto codecBackSpec)

end Rows
end Go.Proofs.Ytceeoifbimlkdaa
