/-
  NARROWER THAN 'FOR EVERY INPUT', by the rows' own cells (each row's printed sentence says how): OccAgain: laid · OccBudget: laid · OccTicks: laid · OccRule: laid · OccAbove: laid · OccSpans: laid · OccAdds: laid.
  DERIVED. THE GIVEN ROWS OF THIS SEAT. 7 by the template 'for every input the law returns true; each argument reads behind the call as it read before'; 0 by the template 'total and deterministic' (their statements: YtmphhgcmmcomjaaDoorTotals.lean).
  GIVEN WITH THE SEED: the statements are not yours to turn. If you find one false, say at which input.
  Laid BY PROGRAM, IN A SANDBOX (cutbox-rows.mjs): the forced cells as the released guide's own fill.sh prints them over the translation 9696ff948dd5ce1e… (all of the seat's roots in one cut). By AI agents, Wed Nov 11 2026. No macro, syntax, notation, axiom, sorry.
-/
import Derived.Test.YtmphhgcmmcomjaaDoorChecked
import GoSem.Claim
import GoSem.ClaimJoined
import GoSem.ClaimMapViews
import Derived.JoinedTies
import Derived.KernelRfl
namespace Go.Proofs.YtmphhgcmmcomjaaDoor
/- THE CELL 'sum', in the pinned program and in every row, IS THE sha256 OF THE DUMP (.gsa) THAT YtmphhgcmmcomjaaDoorProg.lean LOADS. Nothing in Lean hashes anything: it is a label: what it is worth is what the hold of that sum in a sandbox is worth. -/
noncomputable def Tryd.pinned : Pinned := { name := "ytmphhgcmmcomjaadoor", sum := "9696ff948dd5ce1e9a64535fed3b48d44fa91bca954c96112e47d7fcb2cdbd62", checked := Tryd.checked }
namespace Rows
def none {H : Type} : Left H := { results := [], args := [] }

/- WHAT THE LISTED PACKAGE-LEVEL VARIABLES READ AS WHEN THE CALL BEGINS. Each datum BY PROGRAM (the guide's laid-datum.mjs) off the statement by which the dump's own 'gosem.cut.vars' lays the variable. In a bare row this is a premise. The card (YtmphhgcmmcomjaaDoorCards.lean) ties it to the program's text. -/
def laid_errors_errorType {H : Type} : DataW H := .iface "internal/reflectlite.rtype" (.agg [.ptr (.lit (.string [101, 114, 114, 111, 114]))])

/-- 'bulkheadlaw11.OccAgain': WHATEVER THE INPUT: true; the input reads as it did. -/
def occAgainSpec : ChangeSpec := { name := "occAgain", fn := fun _ => fun
  | [d1, d2] => { results := [.lit (.bool true)], args := [d1, d2] }
  | _ => none }
def occAgainRow : OpenClaim := { program := "ytmphhgcmmcomjaadoor", sum := "9696ff948dd5ce1e9a64535fed3b48d44fa91bca954c96112e47d7fcb2cdbd62", func := "bulkhead/bulkheadlaw11.OccAgain", spec := "occAgain", inPlace := ["internal/reflectlite.ValueOf", "(internal/reflectlite.Value).Type", "(internal/reflectlite.Value).IsNil", "internal/reflectlite.TypeOf", "(internal/reflectlite.Value).Elem", "(internal/reflectlite.Value).Set"], unfollowed := true, recurses := true, named := ["errors.errorType"], apart := false, laid := [("errors.errorType", laid_errors_errorType)] }
def OccAgainSaid : Prop := occAgainRow.holds Tryd.pinned (OpenSpec.ofChange occAgainSpec)

/-- ITS FALSE NEIGHBOUR: 'it returns false'. Refute it at one input. -/
def occAgainWrong : ChangeSpec := { name := "occAgain", fn := fun _ => fun
  | [d1, d2] => { results := [.lit (.bool false)], args := [d1, d2] }
  | _ => none }
def OccAgainWrongFalsely : Prop := occAgainRow.holds Tryd.pinned (OpenSpec.ofChange occAgainWrong)

/-- 'bulkheadlaw11.OccBudget': WHATEVER THE INPUT: true; the input reads as it did. -/
def occBudgetSpec : ChangeSpec := { name := "occBudget", fn := fun _ => fun
  | [d1, d2, d3] => { results := [.lit (.bool true)], args := [d1, d2, d3] }
  | _ => none }
def occBudgetRow : OpenClaim := { program := "ytmphhgcmmcomjaadoor", sum := "9696ff948dd5ce1e9a64535fed3b48d44fa91bca954c96112e47d7fcb2cdbd62", func := "bulkhead/bulkheadlaw11.OccBudget", spec := "occBudget", inPlace := ["internal/reflectlite.ValueOf", "(internal/reflectlite.Value).Type", "(internal/reflectlite.Value).IsNil", "internal/reflectlite.TypeOf", "(internal/reflectlite.Value).Elem", "(internal/reflectlite.Value).Set"], unfollowed := true, recurses := true, named := ["errors.errorType"], apart := false, laid := [("errors.errorType", laid_errors_errorType)] }
def OccBudgetSaid : Prop := occBudgetRow.holds Tryd.pinned (OpenSpec.ofChange occBudgetSpec)

/-- ITS FALSE NEIGHBOUR: 'it returns false'. Refute it at one input. -/
def occBudgetWrong : ChangeSpec := { name := "occBudget", fn := fun _ => fun
  | [d1, d2, d3] => { results := [.lit (.bool false)], args := [d1, d2, d3] }
  | _ => none }
def OccBudgetWrongFalsely : Prop := occBudgetRow.holds Tryd.pinned (OpenSpec.ofChange occBudgetWrong)

/-- 'bulkheadlaw11.OccTicks': WHATEVER THE INPUT: true; the input reads as it did. -/
def occTicksSpec : ChangeSpec := { name := "occTicks", fn := fun _ => fun
  | [d1, d2] => { results := [.lit (.bool true)], args := [d1, d2] }
  | _ => none }
def occTicksRow : OpenClaim := { program := "ytmphhgcmmcomjaadoor", sum := "9696ff948dd5ce1e9a64535fed3b48d44fa91bca954c96112e47d7fcb2cdbd62", func := "bulkhead/bulkheadlaw11.OccTicks", spec := "occTicks", inPlace := ["internal/reflectlite.ValueOf", "(internal/reflectlite.Value).Type", "(internal/reflectlite.Value).IsNil", "internal/reflectlite.TypeOf", "(internal/reflectlite.Value).Elem", "(internal/reflectlite.Value).Set"], unfollowed := true, recurses := true, named := ["errors.errorType"], apart := false, laid := [("errors.errorType", laid_errors_errorType)] }
def OccTicksSaid : Prop := occTicksRow.holds Tryd.pinned (OpenSpec.ofChange occTicksSpec)

/-- ITS FALSE NEIGHBOUR: 'it returns false'. Refute it at one input. -/
def occTicksWrong : ChangeSpec := { name := "occTicks", fn := fun _ => fun
  | [d1, d2] => { results := [.lit (.bool false)], args := [d1, d2] }
  | _ => none }
def OccTicksWrongFalsely : Prop := occTicksRow.holds Tryd.pinned (OpenSpec.ofChange occTicksWrong)

/-- 'bulkheadlaw11.OccRule': WHATEVER THE INPUT: true; the input reads as it did. -/
def occRuleSpec : ChangeSpec := { name := "occRule", fn := fun _ => fun
  | [d1, d2] => { results := [.lit (.bool true)], args := [d1, d2] }
  | _ => none }
def occRuleRow : OpenClaim := { program := "ytmphhgcmmcomjaadoor", sum := "9696ff948dd5ce1e9a64535fed3b48d44fa91bca954c96112e47d7fcb2cdbd62", func := "bulkhead/bulkheadlaw11.OccRule", spec := "occRule", inPlace := ["internal/reflectlite.ValueOf", "(internal/reflectlite.Value).Type", "(internal/reflectlite.Value).IsNil", "internal/reflectlite.TypeOf", "(internal/reflectlite.Value).Elem", "(internal/reflectlite.Value).Set"], unfollowed := true, recurses := true, named := ["errors.errorType"], apart := false, laid := [("errors.errorType", laid_errors_errorType)] }
def OccRuleSaid : Prop := occRuleRow.holds Tryd.pinned (OpenSpec.ofChange occRuleSpec)

/-- ITS FALSE NEIGHBOUR: 'it returns false'. Refute it at one input. -/
def occRuleWrong : ChangeSpec := { name := "occRule", fn := fun _ => fun
  | [d1, d2] => { results := [.lit (.bool false)], args := [d1, d2] }
  | _ => none }
def OccRuleWrongFalsely : Prop := occRuleRow.holds Tryd.pinned (OpenSpec.ofChange occRuleWrong)

/-- 'bulkheadlaw11.OccAbove': WHATEVER THE INPUT: true; the input reads as it did. -/
def occAboveSpec : ChangeSpec := { name := "occAbove", fn := fun _ => fun
  | [d1, d2, d3, d4] => { results := [.lit (.bool true)], args := [d1, d2, d3, d4] }
  | _ => none }
def occAboveRow : OpenClaim := { program := "ytmphhgcmmcomjaadoor", sum := "9696ff948dd5ce1e9a64535fed3b48d44fa91bca954c96112e47d7fcb2cdbd62", func := "bulkhead/bulkheadlaw11.OccAbove", spec := "occAbove", inPlace := ["internal/reflectlite.ValueOf", "(internal/reflectlite.Value).Type", "(internal/reflectlite.Value).IsNil", "internal/reflectlite.TypeOf", "(internal/reflectlite.Value).Elem", "(internal/reflectlite.Value).Set"], unfollowed := true, recurses := true, named := ["errors.errorType"], apart := false, laid := [("errors.errorType", laid_errors_errorType)] }
def OccAboveSaid : Prop := occAboveRow.holds Tryd.pinned (OpenSpec.ofChange occAboveSpec)

/-- ITS FALSE NEIGHBOUR: 'it returns false'. Refute it at one input. -/
def occAboveWrong : ChangeSpec := { name := "occAbove", fn := fun _ => fun
  | [d1, d2, d3, d4] => { results := [.lit (.bool false)], args := [d1, d2, d3, d4] }
  | _ => none }
def OccAboveWrongFalsely : Prop := occAboveRow.holds Tryd.pinned (OpenSpec.ofChange occAboveWrong)

/-- 'bulkheadlaw11.OccSpans': WHATEVER THE INPUT: true; the input reads as it did. -/
def occSpansSpec : ChangeSpec := { name := "occSpans", fn := fun _ => fun
  | [d1, d2, d3, d4] => { results := [.lit (.bool true)], args := [d1, d2, d3, d4] }
  | _ => none }
def occSpansRow : OpenClaim := { program := "ytmphhgcmmcomjaadoor", sum := "9696ff948dd5ce1e9a64535fed3b48d44fa91bca954c96112e47d7fcb2cdbd62", func := "bulkhead/bulkheadlaw11.OccSpans", spec := "occSpans", inPlace := ["internal/reflectlite.ValueOf", "(internal/reflectlite.Value).Type", "(internal/reflectlite.Value).IsNil", "internal/reflectlite.TypeOf", "(internal/reflectlite.Value).Elem", "(internal/reflectlite.Value).Set"], unfollowed := true, recurses := true, named := ["errors.errorType"], apart := false, laid := [("errors.errorType", laid_errors_errorType)] }
def OccSpansSaid : Prop := occSpansRow.holds Tryd.pinned (OpenSpec.ofChange occSpansSpec)

/-- ITS FALSE NEIGHBOUR: 'it returns false'. Refute it at one input. -/
def occSpansWrong : ChangeSpec := { name := "occSpans", fn := fun _ => fun
  | [d1, d2, d3, d4] => { results := [.lit (.bool false)], args := [d1, d2, d3, d4] }
  | _ => none }
def OccSpansWrongFalsely : Prop := occSpansRow.holds Tryd.pinned (OpenSpec.ofChange occSpansWrong)

/-- 'bulkheadlaw11.OccAdds': WHATEVER THE INPUT: true; the input reads as it did. -/
def occAddsSpec : ChangeSpec := { name := "occAdds", fn := fun _ => fun
  | [d1, d2, d3] => { results := [.lit (.bool true)], args := [d1, d2, d3] }
  | _ => none }
def occAddsRow : OpenClaim := { program := "ytmphhgcmmcomjaadoor", sum := "9696ff948dd5ce1e9a64535fed3b48d44fa91bca954c96112e47d7fcb2cdbd62", func := "bulkhead/bulkheadlaw11.OccAdds", spec := "occAdds", inPlace := ["internal/reflectlite.ValueOf", "(internal/reflectlite.Value).Type", "(internal/reflectlite.Value).IsNil", "internal/reflectlite.TypeOf", "(internal/reflectlite.Value).Elem", "(internal/reflectlite.Value).Set"], unfollowed := true, recurses := true, named := ["errors.errorType"], apart := false, laid := [("errors.errorType", laid_errors_errorType)] }
def OccAddsSaid : Prop := occAddsRow.holds Tryd.pinned (OpenSpec.ofChange occAddsSpec)

/-- ITS FALSE NEIGHBOUR: 'it returns false'. Refute it at one input. -/
def occAddsWrong : ChangeSpec := { name := "occAdds", fn := fun _ => fun
  | [d1, d2, d3] => { results := [.lit (.bool false)], args := [d1, d2, d3] }
  | _ => none }
def OccAddsWrongFalsely : Prop := occAddsRow.holds Tryd.pinned (OpenSpec.ofChange occAddsWrong)

/- THE SECOND FORM. 'bulk': how many values and letters a reading holds, each counted each time it is reached (what is shared counts as often as it is met; a slice's spare places count too). A statement '..UptoSaid' is the law's where the arguments, and the package variables that the reading takes, are together of bulk at most 1048576: NARROWER than '..Said'. Prove '..Said' where nothing that the law and all that it calls make is longer than what came in: it says more and counts as full. Else prove '..UptoSaid'. A law counts once. -/
mutual
def uptoBulk {H : Type} : DataW H → Nat
  | .lit (.string bytes) => bytes.length + 1
  | .lit _ => 1
  | .nil => 1
  | .ptr d => uptoBulk d + 1
  | .slice elems spare => uptoBulkAll elems + uptoBulkAll spare + 1
  | .agg parts => uptoBulkAll parts + 1
  | .iface _ d => uptoBulk d + 1
  | .map entries => uptoBulkEntries entries + 1
  | .held _ => 1
def uptoBulkAll {H : Type} : List (DataW H) → Nat
  | [] => 0
  | d :: r => uptoBulk d + uptoBulkAll r
def uptoBulkEntries {H : Type} : List (Lit × DataW H) → Nat
  | [] => 0
  | x :: r => uptoBulkEntry x + uptoBulkEntries r
def uptoBulkEntry {H : Type} : Lit × DataW H → Nat
  | (.string bytes, d) => bytes.length + uptoBulk d + 1
  | (_, d) => uptoBulk d + 1
 end
def uptoSmall : (H : Type) → List (DataW H) → Bool := fun _ ds => decide (uptoBulkAll ds ≤ 1048576)
def OpenSpec.upto (s : _root_.Go.ChangeSpec) : _root_.Go.OpenSpec := { _root_.Go.OpenSpec.ofChange s with cond := some uptoSmall }

/-- 'bulkheadlaw11.OccAgain', WHERE WHAT IT READS IS OF BULK AT MOST 1048576: true; the input reads as it did. -/
def occAgainUptoRow : OpenClaim := { program := "ytmphhgcmmcomjaadoor", sum := "9696ff948dd5ce1e9a64535fed3b48d44fa91bca954c96112e47d7fcb2cdbd62", func := "bulkhead/bulkheadlaw11.OccAgain", spec := "occAgain", inPlace := ["internal/reflectlite.ValueOf", "(internal/reflectlite.Value).Type", "(internal/reflectlite.Value).IsNil", "internal/reflectlite.TypeOf", "(internal/reflectlite.Value).Elem", "(internal/reflectlite.Value).Set"], unfollowed := true, recurses := true, named := ["errors.errorType"], apart := false, laid := [("errors.errorType", laid_errors_errorType)], narrowed := true }
def OccAgainUptoSaid : Prop := occAgainUptoRow.holds Tryd.pinned (OpenSpec.upto occAgainSpec)

/-- 'bulkheadlaw11.OccBudget', WHERE WHAT IT READS IS OF BULK AT MOST 1048576: true; the input reads as it did. -/
def occBudgetUptoRow : OpenClaim := { program := "ytmphhgcmmcomjaadoor", sum := "9696ff948dd5ce1e9a64535fed3b48d44fa91bca954c96112e47d7fcb2cdbd62", func := "bulkhead/bulkheadlaw11.OccBudget", spec := "occBudget", inPlace := ["internal/reflectlite.ValueOf", "(internal/reflectlite.Value).Type", "(internal/reflectlite.Value).IsNil", "internal/reflectlite.TypeOf", "(internal/reflectlite.Value).Elem", "(internal/reflectlite.Value).Set"], unfollowed := true, recurses := true, named := ["errors.errorType"], apart := false, laid := [("errors.errorType", laid_errors_errorType)], narrowed := true }
def OccBudgetUptoSaid : Prop := occBudgetUptoRow.holds Tryd.pinned (OpenSpec.upto occBudgetSpec)

/-- 'bulkheadlaw11.OccTicks', WHERE WHAT IT READS IS OF BULK AT MOST 1048576: true; the input reads as it did. -/
def occTicksUptoRow : OpenClaim := { program := "ytmphhgcmmcomjaadoor", sum := "9696ff948dd5ce1e9a64535fed3b48d44fa91bca954c96112e47d7fcb2cdbd62", func := "bulkhead/bulkheadlaw11.OccTicks", spec := "occTicks", inPlace := ["internal/reflectlite.ValueOf", "(internal/reflectlite.Value).Type", "(internal/reflectlite.Value).IsNil", "internal/reflectlite.TypeOf", "(internal/reflectlite.Value).Elem", "(internal/reflectlite.Value).Set"], unfollowed := true, recurses := true, named := ["errors.errorType"], apart := false, laid := [("errors.errorType", laid_errors_errorType)], narrowed := true }
def OccTicksUptoSaid : Prop := occTicksUptoRow.holds Tryd.pinned (OpenSpec.upto occTicksSpec)

/-- 'bulkheadlaw11.OccRule', WHERE WHAT IT READS IS OF BULK AT MOST 1048576: true; the input reads as it did. -/
def occRuleUptoRow : OpenClaim := { program := "ytmphhgcmmcomjaadoor", sum := "9696ff948dd5ce1e9a64535fed3b48d44fa91bca954c96112e47d7fcb2cdbd62", func := "bulkhead/bulkheadlaw11.OccRule", spec := "occRule", inPlace := ["internal/reflectlite.ValueOf", "(internal/reflectlite.Value).Type", "(internal/reflectlite.Value).IsNil", "internal/reflectlite.TypeOf", "(internal/reflectlite.Value).Elem", "(internal/reflectlite.Value).Set"], unfollowed := true, recurses := true, named := ["errors.errorType"], apart := false, laid := [("errors.errorType", laid_errors_errorType)], narrowed := true }
def OccRuleUptoSaid : Prop := occRuleUptoRow.holds Tryd.pinned (OpenSpec.upto occRuleSpec)

/-- 'bulkheadlaw11.OccAbove', WHERE WHAT IT READS IS OF BULK AT MOST 1048576: true; the input reads as it did. -/
def occAboveUptoRow : OpenClaim := { program := "ytmphhgcmmcomjaadoor", sum := "9696ff948dd5ce1e9a64535fed3b48d44fa91bca954c96112e47d7fcb2cdbd62", func := "bulkhead/bulkheadlaw11.OccAbove", spec := "occAbove", inPlace := ["internal/reflectlite.ValueOf", "(internal/reflectlite.Value).Type", "(internal/reflectlite.Value).IsNil", "internal/reflectlite.TypeOf", "(internal/reflectlite.Value).Elem", "(internal/reflectlite.Value).Set"], unfollowed := true, recurses := true, named := ["errors.errorType"], apart := false, laid := [("errors.errorType", laid_errors_errorType)], narrowed := true }
def OccAboveUptoSaid : Prop := occAboveUptoRow.holds Tryd.pinned (OpenSpec.upto occAboveSpec)

/-- 'bulkheadlaw11.OccSpans', WHERE WHAT IT READS IS OF BULK AT MOST 1048576: true; the input reads as it did. -/
def occSpansUptoRow : OpenClaim := { program := "ytmphhgcmmcomjaadoor", sum := "9696ff948dd5ce1e9a64535fed3b48d44fa91bca954c96112e47d7fcb2cdbd62", func := "bulkhead/bulkheadlaw11.OccSpans", spec := "occSpans", inPlace := ["internal/reflectlite.ValueOf", "(internal/reflectlite.Value).Type", "(internal/reflectlite.Value).IsNil", "internal/reflectlite.TypeOf", "(internal/reflectlite.Value).Elem", "(internal/reflectlite.Value).Set"], unfollowed := true, recurses := true, named := ["errors.errorType"], apart := false, laid := [("errors.errorType", laid_errors_errorType)], narrowed := true }
def OccSpansUptoSaid : Prop := occSpansUptoRow.holds Tryd.pinned (OpenSpec.upto occSpansSpec)

/-- 'bulkheadlaw11.OccAdds', WHERE WHAT IT READS IS OF BULK AT MOST 1048576: true; the input reads as it did. -/
def occAddsUptoRow : OpenClaim := { program := "ytmphhgcmmcomjaadoor", sum := "9696ff948dd5ce1e9a64535fed3b48d44fa91bca954c96112e47d7fcb2cdbd62", func := "bulkhead/bulkheadlaw11.OccAdds", spec := "occAdds", inPlace := ["internal/reflectlite.ValueOf", "(internal/reflectlite.Value).Type", "(internal/reflectlite.Value).IsNil", "internal/reflectlite.TypeOf", "(internal/reflectlite.Value).Elem", "(internal/reflectlite.Value).Set"], unfollowed := true, recurses := true, named := ["errors.errorType"], apart := false, laid := [("errors.errorType", laid_errors_errorType)], narrowed := true }
def OccAddsUptoSaid : Prop := occAddsUptoRow.holds Tryd.pinned (OpenSpec.upto occAddsSpec)

end Rows
end Go.Proofs.YtmphhgcmmcomjaaDoor
