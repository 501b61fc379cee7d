/-
  DERIVED. GIVEN WITH THE SEED: THE CARDS: each row of YtckdjcidbpnfeaaDoorRows.lean that lists a variable, with what it lists TIED to the program's text (the seventh form; the later family's looks); each row that meets fmt, with fmt's text TOLD by the authors' own Lean function (tested against real Go, not proved from fmt's source: count such statements apart). THE CARD IS WHAT COUNTS. Prove the row's statement (the work); the ties are given (YtckdjcidbpnfeaaDoorTie.lean); close each card by the builder's one call (the guide's Derived/Test/ToyasCard.lean, 'card_holds'). Laid BY PROGRAM, IN A SANDBOX (cutbox-door.mjs). By AI agents, Wed Nov 11 2026. No macro, syntax, notation, axiom, sorry.
-/
import Derived.Test.YtckdjcidbpnfeaaDoorRows
import GoSem.ClaimSeven
namespace Go.Proofs.YtckdjcidbpnfeaaDoor
namespace Rows

/-- THE TIED CARD OF 'bulkheadlaw13.SlotsMake'. -/
def slotsMakeCard : Claim7 := { stood := { row := slotsMakeRow, standIns := [], harness := (true, "247f6d28f35cbd9ab3899bf4b06e7b96b5772aa376551fd856ecaff58dcc6406"), looks := true }, kinds := [], alts := [], laidByText := true, laidKinds := [.handle], laidTests := true, laidLooks := .later }
def SlotsMakeCardSaid : Prop := Claim7.holds Tryd.pinned (.plain (OpenSpec.ofChange slotsMakeSpec)) slotsMakeCard

/-- THE TIED CARD OF 'bulkheadlaw13.SlotsAlong'. -/
def slotsAlongCard : Claim7 := { stood := { row := slotsAlongRow, standIns := [], harness := (true, "247f6d28f35cbd9ab3899bf4b06e7b96b5772aa376551fd856ecaff58dcc6406"), looks := true }, kinds := [], alts := [], laidByText := true, laidKinds := [.handle], laidTests := true, laidLooks := .later }
def SlotsAlongCardSaid : Prop := Claim7.holds Tryd.pinned (.plain (OpenSpec.ofChange slotsAlongSpec)) slotsAlongCard

/-- THE TIED CARD OF 'bulkheadlaw13.SlotsTell'. -/
def slotsTellCard : Claim7 := { stood := { row := slotsTellRow, standIns := [], harness := (true, "247f6d28f35cbd9ab3899bf4b06e7b96b5772aa376551fd856ecaff58dcc6406"), looks := true }, kinds := [], alts := [], laidByText := true, laidKinds := [.handle], laidTests := true, laidLooks := .later }
def SlotsTellCardSaid : Prop := Claim7.holds Tryd.pinned (.plain (OpenSpec.ofChange slotsTellSpec)) slotsTellCard

/-- THE TIED CARD OF 'bulkheadlaw13.SlotsExact'. -/
def slotsExactCard : Claim7 := { stood := { row := slotsExactRow, standIns := [], harness := (true, "247f6d28f35cbd9ab3899bf4b06e7b96b5772aa376551fd856ecaff58dcc6406"), looks := true }, kinds := [], alts := [], laidByText := true, laidKinds := [.handle], laidTests := true, laidLooks := .later }
def SlotsExactCardSaid : Prop := Claim7.holds Tryd.pinned (.plain (OpenSpec.ofChange slotsExactSpec)) slotsExactCard

/-- THE TIED CARD OF 'bulkheadlaw13.SlotsBack'. -/
def slotsBackCard : Claim7 := { stood := { row := slotsBackRow, standIns := [], harness := (true, "247f6d28f35cbd9ab3899bf4b06e7b96b5772aa376551fd856ecaff58dcc6406"), looks := true }, kinds := [], alts := [], laidByText := true, laidKinds := [.handle], laidTests := true, laidLooks := .later }
def SlotsBackCardSaid : Prop := Claim7.holds Tryd.pinned (.plain (OpenSpec.ofChange slotsBackSpec)) slotsBackCard

/-- THE TIED CARD OF 'bulkheadlaw13.SlotsBytes'. -/
def slotsBytesCard : Claim7 := { stood := { row := slotsBytesRow, standIns := [], harness := (true, "247f6d28f35cbd9ab3899bf4b06e7b96b5772aa376551fd856ecaff58dcc6406"), looks := true }, kinds := [], alts := [], laidByText := true, laidKinds := [.handle], laidTests := true, laidLooks := .later }
def SlotsBytesCardSaid : Prop := Claim7.holds Tryd.pinned (.plain (OpenSpec.ofChange slotsBytesSpec)) slotsBytesCard

/-- THE SECOND FORM's CARD OF 'bulkheadlaw13.SlotsMake'. -/
def slotsMakeUptoCard : Claim7 := { stood := { row := slotsMakeUptoRow, standIns := [], harness := (true, "247f6d28f35cbd9ab3899bf4b06e7b96b5772aa376551fd856ecaff58dcc6406"), looks := true }, kinds := [], alts := [], laidByText := true, laidKinds := [.handle], laidTests := true, laidLooks := .later }
def SlotsMakeUptoCardSaid : Prop := Claim7.holds Tryd.pinned (.plain (OpenSpec.upto slotsMakeSpec)) slotsMakeUptoCard

/-- THE SECOND FORM's CARD OF 'bulkheadlaw13.SlotsAlong'. -/
def slotsAlongUptoCard : Claim7 := { stood := { row := slotsAlongUptoRow, standIns := [], harness := (true, "247f6d28f35cbd9ab3899bf4b06e7b96b5772aa376551fd856ecaff58dcc6406"), looks := true }, kinds := [], alts := [], laidByText := true, laidKinds := [.handle], laidTests := true, laidLooks := .later }
def SlotsAlongUptoCardSaid : Prop := Claim7.holds Tryd.pinned (.plain (OpenSpec.upto slotsAlongSpec)) slotsAlongUptoCard

/-- THE SECOND FORM's CARD OF 'bulkheadlaw13.SlotsTell'. -/
def slotsTellUptoCard : Claim7 := { stood := { row := slotsTellUptoRow, standIns := [], harness := (true, "247f6d28f35cbd9ab3899bf4b06e7b96b5772aa376551fd856ecaff58dcc6406"), looks := true }, kinds := [], alts := [], laidByText := true, laidKinds := [.handle], laidTests := true, laidLooks := .later }
def SlotsTellUptoCardSaid : Prop := Claim7.holds Tryd.pinned (.plain (OpenSpec.upto slotsTellSpec)) slotsTellUptoCard

/-- THE SECOND FORM's CARD OF 'bulkheadlaw13.SlotsExact'. -/
def slotsExactUptoCard : Claim7 := { stood := { row := slotsExactUptoRow, standIns := [], harness := (true, "247f6d28f35cbd9ab3899bf4b06e7b96b5772aa376551fd856ecaff58dcc6406"), looks := true }, kinds := [], alts := [], laidByText := true, laidKinds := [.handle], laidTests := true, laidLooks := .later }
def SlotsExactUptoCardSaid : Prop := Claim7.holds Tryd.pinned (.plain (OpenSpec.upto slotsExactSpec)) slotsExactUptoCard

/-- THE SECOND FORM's CARD OF 'bulkheadlaw13.SlotsBack'. -/
def slotsBackUptoCard : Claim7 := { stood := { row := slotsBackUptoRow, standIns := [], harness := (true, "247f6d28f35cbd9ab3899bf4b06e7b96b5772aa376551fd856ecaff58dcc6406"), looks := true }, kinds := [], alts := [], laidByText := true, laidKinds := [.handle], laidTests := true, laidLooks := .later }
def SlotsBackUptoCardSaid : Prop := Claim7.holds Tryd.pinned (.plain (OpenSpec.upto slotsBackSpec)) slotsBackUptoCard

/-- THE SECOND FORM's CARD OF 'bulkheadlaw13.SlotsBytes'. -/
def slotsBytesUptoCard : Claim7 := { stood := { row := slotsBytesUptoRow, standIns := [], harness := (true, "247f6d28f35cbd9ab3899bf4b06e7b96b5772aa376551fd856ecaff58dcc6406"), looks := true }, kinds := [], alts := [], laidByText := true, laidKinds := [.handle], laidTests := true, laidLooks := .later }
def SlotsBytesUptoCardSaid : Prop := Claim7.holds Tryd.pinned (.plain (OpenSpec.upto slotsBytesSpec)) slotsBytesUptoCard
end Rows
end Go.Proofs.YtckdjcidbpnfeaaDoor
