/-
  DERIVED. GIVEN WITH THE SEED: THE CARDS: each row of YtepidpcdbdbemaaDoorRows.lean that lists a variable, with what it lists TIED to the program's text (the seventh form; the later family's looks); each row that meets fmt, with fmt's text TOLD by the authors' own Lean function (tested against real Go, not proved from fmt's source: count such statements apart). THE CARD IS WHAT COUNTS. Prove the row's statement (the work); the ties are given (YtepidpcdbdbemaaDoorTie.lean); close each card by the builder's one call (the guide's Derived/Test/ToyasCard.lean, 'card_holds'). Laid BY PROGRAM, IN A SANDBOX (cutbox-door.mjs). By AI agents, Wed Nov 11 2026. No macro, syntax, notation, axiom, sorry.
-/
import Derived.Test.YtepidpcdbdbemaaDoorRows
import GoSem.ClaimSeven
namespace Go.Proofs.YtepidpcdbdbemaaDoor
namespace Rows

/-- THE TIED CARD OF 'bulkheadlaw10.CheckServers'. -/
def checkServersCard : Claim7 := { stood := { row := checkServersRow, standIns := [], harness := (true, "f0022271935c7800bd7c3be2701587df16ae1724fa874534db4ae08be13c1ecf"), looks := true }, kinds := [], alts := [], laidByText := true, laidKinds := [.handle], laidTests := true, laidLooks := .later }
def CheckServersCardSaid : Prop := Claim7.holds Tryd.pinned (.plain (OpenSpec.ofChange checkServersSpec)) checkServersCard

/-- THE TIED CARD OF 'bulkheadlaw10.CheckScripts'. -/
def checkScriptsCard : Claim7 := { stood := { row := checkScriptsRow, standIns := [], harness := (true, "f0022271935c7800bd7c3be2701587df16ae1724fa874534db4ae08be13c1ecf"), looks := true }, kinds := [], alts := [], laidByText := true, laidKinds := [.handle], laidTests := true, laidLooks := .later }
def CheckScriptsCardSaid : Prop := Claim7.holds Tryd.pinned (.plain (OpenSpec.ofChange checkScriptsSpec)) checkScriptsCard

/-- THE SECOND FORM's CARD OF 'bulkheadlaw10.CheckServers'. -/
def checkServersUptoCard : Claim7 := { stood := { row := checkServersUptoRow, standIns := [], harness := (true, "f0022271935c7800bd7c3be2701587df16ae1724fa874534db4ae08be13c1ecf"), looks := true }, kinds := [], alts := [], laidByText := true, laidKinds := [.handle], laidTests := true, laidLooks := .later }
def CheckServersUptoCardSaid : Prop := Claim7.holds Tryd.pinned (.plain (OpenSpec.upto checkServersSpec)) checkServersUptoCard

/-- THE SECOND FORM's CARD OF 'bulkheadlaw10.CheckScripts'. -/
def checkScriptsUptoCard : Claim7 := { stood := { row := checkScriptsUptoRow, standIns := [], harness := (true, "f0022271935c7800bd7c3be2701587df16ae1724fa874534db4ae08be13c1ecf"), looks := true }, kinds := [], alts := [], laidByText := true, laidKinds := [.handle], laidTests := true, laidLooks := .later }
def CheckScriptsUptoCardSaid : Prop := Claim7.holds Tryd.pinned (.plain (OpenSpec.upto checkScriptsSpec)) checkScriptsUptoCard
end Rows
end Go.Proofs.YtepidpcdbdbemaaDoor
