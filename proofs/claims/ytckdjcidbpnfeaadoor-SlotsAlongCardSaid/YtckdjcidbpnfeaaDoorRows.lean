/-
  NARROWER THAN 'FOR EVERY INPUT', by the rows' own cells (each row's printed sentence says how): SlotsMake: laid · SlotsAlong: laid · SlotsTell: laid · SlotsExact: laid · SlotsBack: laid · SlotsBytes: laid.
  DERIVED. THE GIVEN ROWS OF THIS SEAT. 6 by the template 'for every input the law returns true; each argument reads behind the call as it read before'; 0 by the template 'total and deterministic' (their statements: YtckdjcidbpnfeaaDoorTotals.lean).
  GIVEN WITH THE SEED: the statements are not yours to turn. If you find one false, say at which input.
  Laid BY PROGRAM, IN A SANDBOX (cutbox-rows.mjs): the forced cells as the released guide's own fill.sh prints them over the translation 8aa44d800be14416… (all of the seat's roots in one cut). By AI agents, Wed Nov 11 2026. No macro, syntax, notation, axiom, sorry.
-/
import Derived.Test.YtckdjcidbpnfeaaDoorChecked
import GoSem.Claim
import GoSem.ClaimJoined
import GoSem.ClaimMapViews
import Derived.JoinedTies
import Derived.KernelRfl
namespace Go.Proofs.YtckdjcidbpnfeaaDoor
/- THE CELL 'sum', in the pinned program and in every row, IS THE sha256 OF THE DUMP (.gsa) THAT YtckdjcidbpnfeaaDoorProg.lean LOADS. Nothing in Lean hashes anything: it is a label: what it is worth is what the hold of that sum in a sandbox is worth. -/
noncomputable def Tryd.pinned : Pinned := { name := "ytckdjcidbpnfeaadoor", sum := "8aa44d800be144166239b900a077c7ddf718f871bc025a86c672ee4651be7300", checked := Tryd.checked }
namespace Rows
def none {H : Type} : Left H := { results := [], args := [] }

/- WHAT THE LISTED PACKAGE-LEVEL VARIABLES READ AS WHEN THE CALL BEGINS. Each datum BY PROGRAM (the guide's laid-datum.mjs) off the statement by which the dump's own 'gosem.cut.vars' lays the variable. In a bare row this is a premise. The card (YtckdjcidbpnfeaaDoorCards.lean) ties it to the program's text. -/
def laid_errors_errorType {H : Type} : DataW H := .iface "internal/reflectlite.rtype" (.agg [.ptr (.lit (.string [101, 114, 114, 111, 114]))])

/-- 'bulkheadlaw13.SlotsMake': WHATEVER THE INPUT: true; the input reads as it did. -/
def slotsMakeSpec : ChangeSpec := { name := "slotsMake", fn := fun _ => fun
  | [d] => { results := [.lit (.bool true)], args := [d] }
  | _ => none }
def slotsMakeRow : OpenClaim := { program := "ytckdjcidbpnfeaadoor", sum := "8aa44d800be144166239b900a077c7ddf718f871bc025a86c672ee4651be7300", func := "bulkhead/bulkheadlaw13.SlotsMake", spec := "slotsMake", inPlace := ["internal/reflectlite.ValueOf", "(internal/reflectlite.Value).Type", "(internal/reflectlite.Value).IsNil", "internal/reflectlite.TypeOf", "(internal/reflectlite.Value).Elem", "(internal/reflectlite.Value).Set"], unfollowed := true, recurses := true, named := ["errors.errorType"], apart := false, laid := [("errors.errorType", laid_errors_errorType)] }
def SlotsMakeSaid : Prop := slotsMakeRow.holds Tryd.pinned (OpenSpec.ofChange slotsMakeSpec)

/-- ITS FALSE NEIGHBOUR: 'it returns false'. Refute it at one input. -/
def slotsMakeWrong : ChangeSpec := { name := "slotsMake", fn := fun _ => fun
  | [d] => { results := [.lit (.bool false)], args := [d] }
  | _ => none }
def SlotsMakeWrongFalsely : Prop := slotsMakeRow.holds Tryd.pinned (OpenSpec.ofChange slotsMakeWrong)

/-- 'bulkheadlaw13.SlotsAlong': WHATEVER THE INPUT: true; the input reads as it did. -/
def slotsAlongSpec : ChangeSpec := { name := "slotsAlong", fn := fun _ => fun
  | [d1, d2, d3, d4] => { results := [.lit (.bool true)], args := [d1, d2, d3, d4] }
  | _ => none }
def slotsAlongRow : OpenClaim := { program := "ytckdjcidbpnfeaadoor", sum := "8aa44d800be144166239b900a077c7ddf718f871bc025a86c672ee4651be7300", func := "bulkhead/bulkheadlaw13.SlotsAlong", spec := "slotsAlong", inPlace := ["internal/reflectlite.ValueOf", "(internal/reflectlite.Value).Type", "(internal/reflectlite.Value).IsNil", "internal/reflectlite.TypeOf", "(internal/reflectlite.Value).Elem", "(internal/reflectlite.Value).Set"], unfollowed := true, recurses := true, named := ["errors.errorType"], apart := false, laid := [("errors.errorType", laid_errors_errorType)] }
def SlotsAlongSaid : Prop := slotsAlongRow.holds Tryd.pinned (OpenSpec.ofChange slotsAlongSpec)

/-- ITS FALSE NEIGHBOUR: 'it returns false'. Refute it at one input. -/
def slotsAlongWrong : ChangeSpec := { name := "slotsAlong", fn := fun _ => fun
  | [d1, d2, d3, d4] => { results := [.lit (.bool false)], args := [d1, d2, d3, d4] }
  | _ => none }
def SlotsAlongWrongFalsely : Prop := slotsAlongRow.holds Tryd.pinned (OpenSpec.ofChange slotsAlongWrong)

/-- 'bulkheadlaw13.SlotsTell': WHATEVER THE INPUT: true; the input reads as it did. -/
def slotsTellSpec : ChangeSpec := { name := "slotsTell", fn := fun _ => fun
  | [d1, d2] => { results := [.lit (.bool true)], args := [d1, d2] }
  | _ => none }
def slotsTellRow : OpenClaim := { program := "ytckdjcidbpnfeaadoor", sum := "8aa44d800be144166239b900a077c7ddf718f871bc025a86c672ee4651be7300", func := "bulkhead/bulkheadlaw13.SlotsTell", spec := "slotsTell", inPlace := ["internal/reflectlite.ValueOf", "(internal/reflectlite.Value).Type", "(internal/reflectlite.Value).IsNil", "internal/reflectlite.TypeOf", "(internal/reflectlite.Value).Elem", "(internal/reflectlite.Value).Set"], unfollowed := true, recurses := true, named := ["errors.errorType"], apart := false, laid := [("errors.errorType", laid_errors_errorType)] }
def SlotsTellSaid : Prop := slotsTellRow.holds Tryd.pinned (OpenSpec.ofChange slotsTellSpec)

/-- ITS FALSE NEIGHBOUR: 'it returns false'. Refute it at one input. -/
def slotsTellWrong : ChangeSpec := { name := "slotsTell", fn := fun _ => fun
  | [d1, d2] => { results := [.lit (.bool false)], args := [d1, d2] }
  | _ => none }
def SlotsTellWrongFalsely : Prop := slotsTellRow.holds Tryd.pinned (OpenSpec.ofChange slotsTellWrong)

/-- 'bulkheadlaw13.SlotsExact': WHATEVER THE INPUT: true; the input reads as it did. -/
def slotsExactSpec : ChangeSpec := { name := "slotsExact", fn := fun _ => fun
  | [d1, d2, d3] => { results := [.lit (.bool true)], args := [d1, d2, d3] }
  | _ => none }
def slotsExactRow : OpenClaim := { program := "ytckdjcidbpnfeaadoor", sum := "8aa44d800be144166239b900a077c7ddf718f871bc025a86c672ee4651be7300", func := "bulkhead/bulkheadlaw13.SlotsExact", spec := "slotsExact", inPlace := ["internal/reflectlite.ValueOf", "(internal/reflectlite.Value).Type", "(internal/reflectlite.Value).IsNil", "internal/reflectlite.TypeOf", "(internal/reflectlite.Value).Elem", "(internal/reflectlite.Value).Set"], unfollowed := true, recurses := true, named := ["errors.errorType"], apart := false, laid := [("errors.errorType", laid_errors_errorType)] }
def SlotsExactSaid : Prop := slotsExactRow.holds Tryd.pinned (OpenSpec.ofChange slotsExactSpec)

/-- ITS FALSE NEIGHBOUR: 'it returns false'. Refute it at one input. -/
def slotsExactWrong : ChangeSpec := { name := "slotsExact", fn := fun _ => fun
  | [d1, d2, d3] => { results := [.lit (.bool false)], args := [d1, d2, d3] }
  | _ => none }
def SlotsExactWrongFalsely : Prop := slotsExactRow.holds Tryd.pinned (OpenSpec.ofChange slotsExactWrong)

/-- 'bulkheadlaw13.SlotsBack': WHATEVER THE INPUT: true; the input reads as it did. -/
def slotsBackSpec : ChangeSpec := { name := "slotsBack", fn := fun _ => fun
  | [d1, d2, d3, d4] => { results := [.lit (.bool true)], args := [d1, d2, d3, d4] }
  | _ => none }
def slotsBackRow : OpenClaim := { program := "ytckdjcidbpnfeaadoor", sum := "8aa44d800be144166239b900a077c7ddf718f871bc025a86c672ee4651be7300", func := "bulkhead/bulkheadlaw13.SlotsBack", spec := "slotsBack", inPlace := ["internal/reflectlite.ValueOf", "(internal/reflectlite.Value).Type", "(internal/reflectlite.Value).IsNil", "internal/reflectlite.TypeOf", "(internal/reflectlite.Value).Elem", "(internal/reflectlite.Value).Set"], unfollowed := true, recurses := true, named := ["errors.errorType"], apart := false, laid := [("errors.errorType", laid_errors_errorType)] }
def SlotsBackSaid : Prop := slotsBackRow.holds Tryd.pinned (OpenSpec.ofChange slotsBackSpec)

/-- ITS FALSE NEIGHBOUR: 'it returns false'. Refute it at one input. -/
def slotsBackWrong : ChangeSpec := { name := "slotsBack", fn := fun _ => fun
  | [d1, d2, d3, d4] => { results := [.lit (.bool false)], args := [d1, d2, d3, d4] }
  | _ => none }
def SlotsBackWrongFalsely : Prop := slotsBackRow.holds Tryd.pinned (OpenSpec.ofChange slotsBackWrong)

/-- 'bulkheadlaw13.SlotsBytes': WHATEVER THE INPUT: true; the input reads as it did. -/
def slotsBytesSpec : ChangeSpec := { name := "slotsBytes", fn := fun _ => fun
  | [d] => { results := [.lit (.bool true)], args := [d] }
  | _ => none }
def slotsBytesRow : OpenClaim := { program := "ytckdjcidbpnfeaadoor", sum := "8aa44d800be144166239b900a077c7ddf718f871bc025a86c672ee4651be7300", func := "bulkhead/bulkheadlaw13.SlotsBytes", spec := "slotsBytes", inPlace := ["internal/reflectlite.ValueOf", "(internal/reflectlite.Value).Type", "(internal/reflectlite.Value).IsNil", "internal/reflectlite.TypeOf", "(internal/reflectlite.Value).Elem", "(internal/reflectlite.Value).Set"], unfollowed := true, recurses := true, named := ["errors.errorType"], apart := false, laid := [("errors.errorType", laid_errors_errorType)] }
def SlotsBytesSaid : Prop := slotsBytesRow.holds Tryd.pinned (OpenSpec.ofChange slotsBytesSpec)

/-- ITS FALSE NEIGHBOUR: 'it returns false'. Refute it at one input. -/
def slotsBytesWrong : ChangeSpec := { name := "slotsBytes", fn := fun _ => fun
  | [d] => { results := [.lit (.bool false)], args := [d] }
  | _ => none }
def SlotsBytesWrongFalsely : Prop := slotsBytesRow.holds Tryd.pinned (OpenSpec.ofChange slotsBytesWrong)

/- THE SECOND FORM. 'bulk': how many values and letters a reading holds, each counted each time it is reached (what is shared counts as often as it is met; a slice's spare places count too). A statement '..UptoSaid' is the law's where the arguments, and the package variables that the reading takes, are together of bulk at most 1048576: NARROWER than '..Said'. Prove '..Said' where nothing that the law and all that it calls make is longer than what came in: it says more and counts as full. Else prove '..UptoSaid'. A law counts once. -/
mutual
def uptoBulk {H : Type} : DataW H → Nat
  | .lit (.string bytes) => bytes.length + 1
  | .lit _ => 1
  | .nil => 1
  | .ptr d => uptoBulk d + 1
  | .slice elems spare => uptoBulkAll elems + uptoBulkAll spare + 1
  | .agg parts => uptoBulkAll parts + 1
  | .iface _ d => uptoBulk d + 1
  | .map entries => uptoBulkEntries entries + 1
  | .held _ => 1
def uptoBulkAll {H : Type} : List (DataW H) → Nat
  | [] => 0
  | d :: r => uptoBulk d + uptoBulkAll r
def uptoBulkEntries {H : Type} : List (Lit × DataW H) → Nat
  | [] => 0
  | x :: r => uptoBulkEntry x + uptoBulkEntries r
def uptoBulkEntry {H : Type} : Lit × DataW H → Nat
  | (.string bytes, d) => bytes.length + uptoBulk d + 1
  | (_, d) => uptoBulk d + 1
 end
def uptoSmall : (H : Type) → List (DataW H) → Bool := fun _ ds => decide (uptoBulkAll ds ≤ 1048576)
def OpenSpec.upto (s : _root_.Go.ChangeSpec) : _root_.Go.OpenSpec := { _root_.Go.OpenSpec.ofChange s with cond := some uptoSmall }

/-- 'bulkheadlaw13.SlotsMake', WHERE WHAT IT READS IS OF BULK AT MOST 1048576: true; the input reads as it did. -/
def slotsMakeUptoRow : OpenClaim := { program := "ytckdjcidbpnfeaadoor", sum := "8aa44d800be144166239b900a077c7ddf718f871bc025a86c672ee4651be7300", func := "bulkhead/bulkheadlaw13.SlotsMake", spec := "slotsMake", inPlace := ["internal/reflectlite.ValueOf", "(internal/reflectlite.Value).Type", "(internal/reflectlite.Value).IsNil", "internal/reflectlite.TypeOf", "(internal/reflectlite.Value).Elem", "(internal/reflectlite.Value).Set"], unfollowed := true, recurses := true, named := ["errors.errorType"], apart := false, laid := [("errors.errorType", laid_errors_errorType)], narrowed := true }
def SlotsMakeUptoSaid : Prop := slotsMakeUptoRow.holds Tryd.pinned (OpenSpec.upto slotsMakeSpec)

/-- 'bulkheadlaw13.SlotsAlong', WHERE WHAT IT READS IS OF BULK AT MOST 1048576: true; the input reads as it did. -/
def slotsAlongUptoRow : OpenClaim := { program := "ytckdjcidbpnfeaadoor", sum := "8aa44d800be144166239b900a077c7ddf718f871bc025a86c672ee4651be7300", func := "bulkhead/bulkheadlaw13.SlotsAlong", spec := "slotsAlong", inPlace := ["internal/reflectlite.ValueOf", "(internal/reflectlite.Value).Type", "(internal/reflectlite.Value).IsNil", "internal/reflectlite.TypeOf", "(internal/reflectlite.Value).Elem", "(internal/reflectlite.Value).Set"], unfollowed := true, recurses := true, named := ["errors.errorType"], apart := false, laid := [("errors.errorType", laid_errors_errorType)], narrowed := true }
def SlotsAlongUptoSaid : Prop := slotsAlongUptoRow.holds Tryd.pinned (OpenSpec.upto slotsAlongSpec)

/-- 'bulkheadlaw13.SlotsTell', WHERE WHAT IT READS IS OF BULK AT MOST 1048576: true; the input reads as it did. -/
def slotsTellUptoRow : OpenClaim := { program := "ytckdjcidbpnfeaadoor", sum := "8aa44d800be144166239b900a077c7ddf718f871bc025a86c672ee4651be7300", func := "bulkhead/bulkheadlaw13.SlotsTell", spec := "slotsTell", inPlace := ["internal/reflectlite.ValueOf", "(internal/reflectlite.Value).Type", "(internal/reflectlite.Value).IsNil", "internal/reflectlite.TypeOf", "(internal/reflectlite.Value).Elem", "(internal/reflectlite.Value).Set"], unfollowed := true, recurses := true, named := ["errors.errorType"], apart := false, laid := [("errors.errorType", laid_errors_errorType)], narrowed := true }
def SlotsTellUptoSaid : Prop := slotsTellUptoRow.holds Tryd.pinned (OpenSpec.upto slotsTellSpec)

/-- 'bulkheadlaw13.SlotsExact', WHERE WHAT IT READS IS OF BULK AT MOST 1048576: true; the input reads as it did. -/
def slotsExactUptoRow : OpenClaim := { program := "ytckdjcidbpnfeaadoor", sum := "8aa44d800be144166239b900a077c7ddf718f871bc025a86c672ee4651be7300", func := "bulkhead/bulkheadlaw13.SlotsExact", spec := "slotsExact", inPlace := ["internal/reflectlite.ValueOf", "(internal/reflectlite.Value).Type", "(internal/reflectlite.Value).IsNil", "internal/reflectlite.TypeOf", "(internal/reflectlite.Value).Elem", "(internal/reflectlite.Value).Set"], unfollowed := true, recurses := true, named := ["errors.errorType"], apart := false, laid := [("errors.errorType", laid_errors_errorType)], narrowed := true }
def SlotsExactUptoSaid : Prop := slotsExactUptoRow.holds Tryd.pinned (OpenSpec.upto slotsExactSpec)

/-- 'bulkheadlaw13.SlotsBack', WHERE WHAT IT READS IS OF BULK AT MOST 1048576: true; the input reads as it did. -/
def slotsBackUptoRow : OpenClaim := { program := "ytckdjcidbpnfeaadoor", sum := "8aa44d800be144166239b900a077c7ddf718f871bc025a86c672ee4651be7300", func := "bulkhead/bulkheadlaw13.SlotsBack", spec := "slotsBack", inPlace := ["internal/reflectlite.ValueOf", "(internal/reflectlite.Value).Type", "(internal/reflectlite.Value).IsNil", "internal/reflectlite.TypeOf", "(internal/reflectlite.Value).Elem", "(internal/reflectlite.Value).Set"], unfollowed := true, recurses := true, named := ["errors.errorType"], apart := false, laid := [("errors.errorType", laid_errors_errorType)], narrowed := true }
def SlotsBackUptoSaid : Prop := slotsBackUptoRow.holds Tryd.pinned (OpenSpec.upto slotsBackSpec)

/-- 'bulkheadlaw13.SlotsBytes', WHERE WHAT IT READS IS OF BULK AT MOST 1048576: true; the input reads as it did. -/
def slotsBytesUptoRow : OpenClaim := { program := "ytckdjcidbpnfeaadoor", sum := "8aa44d800be144166239b900a077c7ddf718f871bc025a86c672ee4651be7300", func := "bulkhead/bulkheadlaw13.SlotsBytes", spec := "slotsBytes", inPlace := ["internal/reflectlite.ValueOf", "(internal/reflectlite.Value).Type", "(internal/reflectlite.Value).IsNil", "internal/reflectlite.TypeOf", "(internal/reflectlite.Value).Elem", "(internal/reflectlite.Value).Set"], unfollowed := true, recurses := true, named := ["errors.errorType"], apart := false, laid := [("errors.errorType", laid_errors_errorType)], narrowed := true }
def SlotsBytesUptoSaid : Prop := slotsBytesUptoRow.holds Tryd.pinned (OpenSpec.upto slotsBytesSpec)

end Rows
end Go.Proofs.YtckdjcidbpnfeaaDoor
