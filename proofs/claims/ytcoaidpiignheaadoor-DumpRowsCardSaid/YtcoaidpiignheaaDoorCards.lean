/-
  DERIVED. GIVEN WITH THE SEED: THE CARDS: each row of YtcoaidpiignheaaDoorRows.lean that lists a variable, with what it lists TIED to the program's text (the seventh form; the later family's looks); each row that meets fmt, with fmt's text TOLD by the authors' own Lean function (tested against real Go, not proved from fmt's source: count such statements apart). THE CARD IS WHAT COUNTS. Prove the row's statement (the work); the ties are given (YtcoaidpiignheaaDoorTie.lean); close each card by the builder's one call (the guide's Derived/Test/ToyasCard.lean, 'card_holds'). Laid BY PROGRAM, IN A SANDBOX (cutbox-door.mjs). By AI agents, Wed Nov 11 2026. No macro, syntax, notation, axiom, sorry.
-/
import Derived.Test.YtcoaidpiignheaaDoorRows
import GoSem.ClaimSeven
namespace Go.Proofs.YtcoaidpiignheaaDoor
namespace Rows

/-- THE TIED CARD OF 'wainscotlaw29.DumpBack'. -/
def dumpBackCard : Claim7 := { stood := { row := dumpBackRow, standIns := [], harness := (true, "13abf6f0892e5dfe2fb2d44aaca2a128a02db47a9df0fb61cea85af06d87dc90"), looks := false }, kinds := [], alts := [], laidByText := true, laidKinds := [.data, .pinned], laidTests := true, laidLooks := .later }
def DumpBackCardSaid : Prop := Claim7.holds Tryd.pinned (.plain (OpenSpec.ofChange dumpBackSpec)) dumpBackCard

/-- THE TIED CARD OF 'wainscotlaw29.DumpParses'. -/
def dumpParsesCard : Claim7 := { stood := { row := dumpParsesRow, standIns := [], harness := (true, "13abf6f0892e5dfe2fb2d44aaca2a128a02db47a9df0fb61cea85af06d87dc90"), looks := false }, kinds := [], alts := [], laidByText := true, laidKinds := [.data, .pinned], laidTests := true, laidLooks := .later }
def DumpParsesCardSaid : Prop := Claim7.holds Tryd.pinned (.plain (OpenSpec.ofChange dumpParsesSpec)) dumpParsesCard

/-- THE TIED CARD OF 'wainscotlaw29.DumpMany'. -/
def dumpManyCard : Claim7 := { stood := { row := dumpManyRow, standIns := [], harness := (true, "13abf6f0892e5dfe2fb2d44aaca2a128a02db47a9df0fb61cea85af06d87dc90"), looks := false }, kinds := [], alts := [], laidByText := true, laidKinds := [.data, .pinned], laidTests := true, laidLooks := .later }
def DumpManyCardSaid : Prop := Claim7.holds Tryd.pinned (.plain (OpenSpec.ofChange dumpManySpec)) dumpManyCard

/-- THE TIED CARD OF 'wainscotlaw29.DumpRows'. -/
def dumpRowsCard : Claim7 := { stood := { row := dumpRowsRow, standIns := [], harness := (true, "13abf6f0892e5dfe2fb2d44aaca2a128a02db47a9df0fb61cea85af06d87dc90"), looks := false }, kinds := [], alts := [], laidByText := true, laidKinds := [.data, .pinned], laidTests := true, laidLooks := .later }
def DumpRowsCardSaid : Prop := Claim7.holds Tryd.pinned (.plain (OpenSpec.ofChange dumpRowsSpec)) dumpRowsCard

/-- THE SECOND FORM's CARD OF 'wainscotlaw29.DumpBack'. -/
def dumpBackUptoCard : Claim7 := { stood := { row := dumpBackUptoRow, standIns := [], harness := (true, "13abf6f0892e5dfe2fb2d44aaca2a128a02db47a9df0fb61cea85af06d87dc90"), looks := false }, kinds := [], alts := [], laidByText := true, laidKinds := [.data, .pinned], laidTests := true, laidLooks := .later }
def DumpBackUptoCardSaid : Prop := Claim7.holds Tryd.pinned (.plain (OpenSpec.upto dumpBackSpec)) dumpBackUptoCard

/-- THE SECOND FORM's CARD OF 'wainscotlaw29.DumpParses'. -/
def dumpParsesUptoCard : Claim7 := { stood := { row := dumpParsesUptoRow, standIns := [], harness := (true, "13abf6f0892e5dfe2fb2d44aaca2a128a02db47a9df0fb61cea85af06d87dc90"), looks := false }, kinds := [], alts := [], laidByText := true, laidKinds := [.data, .pinned], laidTests := true, laidLooks := .later }
def DumpParsesUptoCardSaid : Prop := Claim7.holds Tryd.pinned (.plain (OpenSpec.upto dumpParsesSpec)) dumpParsesUptoCard

/-- THE SECOND FORM's CARD OF 'wainscotlaw29.DumpMany'. -/
def dumpManyUptoCard : Claim7 := { stood := { row := dumpManyUptoRow, standIns := [], harness := (true, "13abf6f0892e5dfe2fb2d44aaca2a128a02db47a9df0fb61cea85af06d87dc90"), looks := false }, kinds := [], alts := [], laidByText := true, laidKinds := [.data, .pinned], laidTests := true, laidLooks := .later }
def DumpManyUptoCardSaid : Prop := Claim7.holds Tryd.pinned (.plain (OpenSpec.upto dumpManySpec)) dumpManyUptoCard

/-- THE SECOND FORM's CARD OF 'wainscotlaw29.DumpRows'. -/
def dumpRowsUptoCard : Claim7 := { stood := { row := dumpRowsUptoRow, standIns := [], harness := (true, "13abf6f0892e5dfe2fb2d44aaca2a128a02db47a9df0fb61cea85af06d87dc90"), looks := false }, kinds := [], alts := [], laidByText := true, laidKinds := [.data, .pinned], laidTests := true, laidLooks := .later }
def DumpRowsUptoCardSaid : Prop := Claim7.holds Tryd.pinned (.plain (OpenSpec.upto dumpRowsSpec)) dumpRowsUptoCard
end Rows
end Go.Proofs.YtcoaidpiignheaaDoor
