/-
  DERIVED. GIVEN WITH THE SEED: THE CARDS: each row of YtabhokgefpilkaaGreatDoorRows.lean that lists a variable, with what it lists TIED to the program's text (the seventh form; the later family's looks); each row that meets fmt, with fmt's text TOLD by the authors' own Lean function (tested against real Go, not proved from fmt's source: count such statements apart). THE CARD IS WHAT COUNTS. Prove the row's statement (the work); the ties are given (YtabhokgefpilkaaGreatDoorTie.lean); close each card by the builder's one call (the guide's Derived/Test/ToyasCard.lean, 'card_holds'). Laid BY PROGRAM, IN A SANDBOX (cutbox-door.mjs). By AI agents, Wed Nov 11 2026. No macro, syntax, notation, axiom, sorry.
-/
import Derived.Test.YtabhokgefpilkaaGreatDoorRows
import GoSem.ClaimSeven
namespace Go.Proofs.YtabhokgefpilkaaGreatDoor
namespace Rows

/-- THE TIED CARD OF 'wainscotlaw12.SheetParses'. -/
def sheetParsesCard : Claim7 := { stood := { row := sheetParsesRow, standIns := [], harness := (true, "829317e5557b9722ac4d58be3f50e72f76ed2d6afca78c7533b8245e2600f97e"), looks := false }, kinds := [], alts := [], laidByText := true, laidKinds := [.data, .pinned], laidTests := true, laidLooks := .later }
def SheetParsesCardSaid : Prop := Claim7.holds Tryz.pinned (.plain (OpenSpec.ofChange sheetParsesSpec)) sheetParsesCard

/-- THE TIED CARD OF 'wainscotlaw12.SheetRights'. -/
def sheetRightsCard : Claim7 := { stood := { row := sheetRightsRow, standIns := [], harness := (true, "829317e5557b9722ac4d58be3f50e72f76ed2d6afca78c7533b8245e2600f97e"), looks := false }, kinds := [], alts := [], laidByText := true, laidKinds := [.data, .pinned], laidTests := true, laidLooks := .later }
def SheetRightsCardSaid : Prop := Claim7.holds Tryz.pinned (.plain (OpenSpec.ofChange sheetRightsSpec)) sheetRightsCard

/-- THE SECOND FORM's CARD OF 'wainscotlaw12.SheetParses'. -/
def sheetParsesUptoCard : Claim7 := { stood := { row := sheetParsesUptoRow, standIns := [], harness := (true, "829317e5557b9722ac4d58be3f50e72f76ed2d6afca78c7533b8245e2600f97e"), looks := false }, kinds := [], alts := [], laidByText := true, laidKinds := [.data, .pinned], laidTests := true, laidLooks := .later }
def SheetParsesUptoCardSaid : Prop := Claim7.holds Tryz.pinned (.plain (OpenSpec.upto sheetParsesSpec)) sheetParsesUptoCard

/-- THE SECOND FORM's CARD OF 'wainscotlaw12.SheetRights'. -/
def sheetRightsUptoCard : Claim7 := { stood := { row := sheetRightsUptoRow, standIns := [], harness := (true, "829317e5557b9722ac4d58be3f50e72f76ed2d6afca78c7533b8245e2600f97e"), looks := false }, kinds := [], alts := [], laidByText := true, laidKinds := [.data, .pinned], laidTests := true, laidLooks := .later }
def SheetRightsUptoCardSaid : Prop := Claim7.holds Tryz.pinned (.plain (OpenSpec.upto sheetRightsSpec)) sheetRightsUptoCard
end Rows
end Go.Proofs.YtabhokgefpilkaaGreatDoor
