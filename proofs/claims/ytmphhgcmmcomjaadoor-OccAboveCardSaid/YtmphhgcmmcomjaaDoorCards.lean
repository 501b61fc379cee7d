/-
  DERIVED. GIVEN WITH THE SEED: THE CARDS: each row of YtmphhgcmmcomjaaDoorRows.lean that lists a variable, with what it lists TIED to the program's text (the seventh form; the later family's looks); each row that meets fmt, with fmt's text TOLD by the authors' own Lean function (tested against real Go, not proved from fmt's source: count such statements apart). THE CARD IS WHAT COUNTS. Prove the row's statement (the work); the ties are given (YtmphhgcmmcomjaaDoorTie.lean); close each card by the builder's one call (the guide's Derived/Test/ToyasCard.lean, 'card_holds'). Laid BY PROGRAM, IN A SANDBOX (cutbox-door.mjs). By AI agents, Wed Nov 11 2026. No macro, syntax, notation, axiom, sorry.
-/
import Derived.Test.YtmphhgcmmcomjaaDoorRows
import GoSem.ClaimSeven
namespace Go.Proofs.YtmphhgcmmcomjaaDoor
namespace Rows

/-- THE TIED CARD OF 'bulkheadlaw11.OccAgain'. -/
def occAgainCard : Claim7 := { stood := { row := occAgainRow, standIns := [], harness := (true, "f4659c94c3a149f2020564f53bad6689b0f6e658969e6058632340fe3b76c578"), looks := true }, kinds := [], alts := [], laidByText := true, laidKinds := [.handle], laidTests := true, laidLooks := .later }
def OccAgainCardSaid : Prop := Claim7.holds Tryd.pinned (.plain (OpenSpec.ofChange occAgainSpec)) occAgainCard

/-- THE TIED CARD OF 'bulkheadlaw11.OccBudget'. -/
def occBudgetCard : Claim7 := { stood := { row := occBudgetRow, standIns := [], harness := (true, "f4659c94c3a149f2020564f53bad6689b0f6e658969e6058632340fe3b76c578"), looks := true }, kinds := [], alts := [], laidByText := true, laidKinds := [.handle], laidTests := true, laidLooks := .later }
def OccBudgetCardSaid : Prop := Claim7.holds Tryd.pinned (.plain (OpenSpec.ofChange occBudgetSpec)) occBudgetCard

/-- THE TIED CARD OF 'bulkheadlaw11.OccTicks'. -/
def occTicksCard : Claim7 := { stood := { row := occTicksRow, standIns := [], harness := (true, "f4659c94c3a149f2020564f53bad6689b0f6e658969e6058632340fe3b76c578"), looks := true }, kinds := [], alts := [], laidByText := true, laidKinds := [.handle], laidTests := true, laidLooks := .later }
def OccTicksCardSaid : Prop := Claim7.holds Tryd.pinned (.plain (OpenSpec.ofChange occTicksSpec)) occTicksCard

/-- THE TIED CARD OF 'bulkheadlaw11.OccRule'. -/
def occRuleCard : Claim7 := { stood := { row := occRuleRow, standIns := [], harness := (true, "f4659c94c3a149f2020564f53bad6689b0f6e658969e6058632340fe3b76c578"), looks := true }, kinds := [], alts := [], laidByText := true, laidKinds := [.handle], laidTests := true, laidLooks := .later }
def OccRuleCardSaid : Prop := Claim7.holds Tryd.pinned (.plain (OpenSpec.ofChange occRuleSpec)) occRuleCard

/-- THE TIED CARD OF 'bulkheadlaw11.OccAbove'. -/
def occAboveCard : Claim7 := { stood := { row := occAboveRow, standIns := [], harness := (true, "f4659c94c3a149f2020564f53bad6689b0f6e658969e6058632340fe3b76c578"), looks := true }, kinds := [], alts := [], laidByText := true, laidKinds := [.handle], laidTests := true, laidLooks := .later }
def OccAboveCardSaid : Prop := Claim7.holds Tryd.pinned (.plain (OpenSpec.ofChange occAboveSpec)) occAboveCard

/-- THE TIED CARD OF 'bulkheadlaw11.OccSpans'. -/
def occSpansCard : Claim7 := { stood := { row := occSpansRow, standIns := [], harness := (true, "f4659c94c3a149f2020564f53bad6689b0f6e658969e6058632340fe3b76c578"), looks := true }, kinds := [], alts := [], laidByText := true, laidKinds := [.handle], laidTests := true, laidLooks := .later }
def OccSpansCardSaid : Prop := Claim7.holds Tryd.pinned (.plain (OpenSpec.ofChange occSpansSpec)) occSpansCard

/-- THE TIED CARD OF 'bulkheadlaw11.OccAdds'. -/
def occAddsCard : Claim7 := { stood := { row := occAddsRow, standIns := [], harness := (true, "f4659c94c3a149f2020564f53bad6689b0f6e658969e6058632340fe3b76c578"), looks := true }, kinds := [], alts := [], laidByText := true, laidKinds := [.handle], laidTests := true, laidLooks := .later }
def OccAddsCardSaid : Prop := Claim7.holds Tryd.pinned (.plain (OpenSpec.ofChange occAddsSpec)) occAddsCard

/-- THE SECOND FORM's CARD OF 'bulkheadlaw11.OccAgain'. -/
def occAgainUptoCard : Claim7 := { stood := { row := occAgainUptoRow, standIns := [], harness := (true, "f4659c94c3a149f2020564f53bad6689b0f6e658969e6058632340fe3b76c578"), looks := true }, kinds := [], alts := [], laidByText := true, laidKinds := [.handle], laidTests := true, laidLooks := .later }
def OccAgainUptoCardSaid : Prop := Claim7.holds Tryd.pinned (.plain (OpenSpec.upto occAgainSpec)) occAgainUptoCard

/-- THE SECOND FORM's CARD OF 'bulkheadlaw11.OccBudget'. -/
def occBudgetUptoCard : Claim7 := { stood := { row := occBudgetUptoRow, standIns := [], harness := (true, "f4659c94c3a149f2020564f53bad6689b0f6e658969e6058632340fe3b76c578"), looks := true }, kinds := [], alts := [], laidByText := true, laidKinds := [.handle], laidTests := true, laidLooks := .later }
def OccBudgetUptoCardSaid : Prop := Claim7.holds Tryd.pinned (.plain (OpenSpec.upto occBudgetSpec)) occBudgetUptoCard

/-- THE SECOND FORM's CARD OF 'bulkheadlaw11.OccTicks'. -/
def occTicksUptoCard : Claim7 := { stood := { row := occTicksUptoRow, standIns := [], harness := (true, "f4659c94c3a149f2020564f53bad6689b0f6e658969e6058632340fe3b76c578"), looks := true }, kinds := [], alts := [], laidByText := true, laidKinds := [.handle], laidTests := true, laidLooks := .later }
def OccTicksUptoCardSaid : Prop := Claim7.holds Tryd.pinned (.plain (OpenSpec.upto occTicksSpec)) occTicksUptoCard

/-- THE SECOND FORM's CARD OF 'bulkheadlaw11.OccRule'. -/
def occRuleUptoCard : Claim7 := { stood := { row := occRuleUptoRow, standIns := [], harness := (true, "f4659c94c3a149f2020564f53bad6689b0f6e658969e6058632340fe3b76c578"), looks := true }, kinds := [], alts := [], laidByText := true, laidKinds := [.handle], laidTests := true, laidLooks := .later }
def OccRuleUptoCardSaid : Prop := Claim7.holds Tryd.pinned (.plain (OpenSpec.upto occRuleSpec)) occRuleUptoCard

/-- THE SECOND FORM's CARD OF 'bulkheadlaw11.OccAbove'. -/
def occAboveUptoCard : Claim7 := { stood := { row := occAboveUptoRow, standIns := [], harness := (true, "f4659c94c3a149f2020564f53bad6689b0f6e658969e6058632340fe3b76c578"), looks := true }, kinds := [], alts := [], laidByText := true, laidKinds := [.handle], laidTests := true, laidLooks := .later }
def OccAboveUptoCardSaid : Prop := Claim7.holds Tryd.pinned (.plain (OpenSpec.upto occAboveSpec)) occAboveUptoCard

/-- THE SECOND FORM's CARD OF 'bulkheadlaw11.OccSpans'. -/
def occSpansUptoCard : Claim7 := { stood := { row := occSpansUptoRow, standIns := [], harness := (true, "f4659c94c3a149f2020564f53bad6689b0f6e658969e6058632340fe3b76c578"), looks := true }, kinds := [], alts := [], laidByText := true, laidKinds := [.handle], laidTests := true, laidLooks := .later }
def OccSpansUptoCardSaid : Prop := Claim7.holds Tryd.pinned (.plain (OpenSpec.upto occSpansSpec)) occSpansUptoCard

/-- THE SECOND FORM's CARD OF 'bulkheadlaw11.OccAdds'. -/
def occAddsUptoCard : Claim7 := { stood := { row := occAddsUptoRow, standIns := [], harness := (true, "f4659c94c3a149f2020564f53bad6689b0f6e658969e6058632340fe3b76c578"), looks := true }, kinds := [], alts := [], laidByText := true, laidKinds := [.handle], laidTests := true, laidLooks := .later }
def OccAddsUptoCardSaid : Prop := Claim7.holds Tryd.pinned (.plain (OpenSpec.upto occAddsSpec)) occAddsUptoCard
end Rows
end Go.Proofs.YtmphhgcmmcomjaaDoor
