/-
  DERIVED. GIVEN WITH THE SEED: THE CARDS: each row of YtkbnmmknjmmlmaaGreatDoorRows.lean that lists a variable, with what it lists TIED to the program's text (the seventh form; the later family's looks); each row that meets fmt, with fmt's text TOLD by the authors' own Lean function (tested against real Go, not proved from fmt's source: count such statements apart). THE CARD IS WHAT COUNTS. Prove the row's statement (the work); the ties are given (YtkbnmmknjmmlmaaGreatDoorTie.lean); close each card by the builder's one call (the guide's Derived/Test/ToyasCard.lean, 'card_holds'). Laid BY PROGRAM, IN A SANDBOX (cutbox-door.mjs). By AI agents, Wed Nov 11 2026. No macro, syntax, notation, axiom, sorry.
-/
import Derived.Test.YtkbnmmknjmmlmaaGreatDoorRows
import GoSem.ClaimSeven
namespace Go.Proofs.YtkbnmmknjmmlmaaGreatDoor
namespace Rows

/-- THE TIED CARD OF 'wainscotlaw23.IntrinsicOrder'. -/
def intrinsicOrderCard : Claim7 := { stood := { row := intrinsicOrderRow, standIns := [], harness := (true, "2edb55afda63aa11de59937e824a9573c157f3dc758be13a2554f2b6a5d446e8"), looks := false }, kinds := [], alts := [], laidByText := true, laidKinds := [.data, .pinned], laidTests := true, laidLooks := .later }
def IntrinsicOrderCardSaid : Prop := Claim7.holds Tryz.pinned (.plain (OpenSpec.ofChange intrinsicOrderSpec)) intrinsicOrderCard

/-- THE TIED CARD OF 'wainscotlaw23.IntrinsicHolds'. -/
def intrinsicHoldsCard : Claim7 := { stood := { row := intrinsicHoldsRow, standIns := [], harness := (true, "2edb55afda63aa11de59937e824a9573c157f3dc758be13a2554f2b6a5d446e8"), looks := false }, kinds := [], alts := [], laidByText := true, laidKinds := [.data, .pinned], laidTests := true, laidLooks := .later }
def IntrinsicHoldsCardSaid : Prop := Claim7.holds Tryz.pinned (.plain (OpenSpec.ofChange intrinsicHoldsSpec)) intrinsicHoldsCard

/-- THE TIED CARD OF 'wainscotlaw23.IntrinsicKids'. -/
def intrinsicKidsCard : Claim7 := { stood := { row := intrinsicKidsRow, standIns := [], harness := (true, "2edb55afda63aa11de59937e824a9573c157f3dc758be13a2554f2b6a5d446e8"), looks := false }, kinds := [], alts := [], laidByText := true, laidKinds := [.data, .pinned], laidTests := true, laidLooks := .later }
def IntrinsicKidsCardSaid : Prop := Claim7.holds Tryz.pinned (.plain (OpenSpec.ofChange intrinsicKidsSpec)) intrinsicKidsCard

/-- THE SECOND FORM's CARD OF 'wainscotlaw23.IntrinsicOrder'. -/
def intrinsicOrderUptoCard : Claim7 := { stood := { row := intrinsicOrderUptoRow, standIns := [], harness := (true, "2edb55afda63aa11de59937e824a9573c157f3dc758be13a2554f2b6a5d446e8"), looks := false }, kinds := [], alts := [], laidByText := true, laidKinds := [.data, .pinned], laidTests := true, laidLooks := .later }
def IntrinsicOrderUptoCardSaid : Prop := Claim7.holds Tryz.pinned (.plain (OpenSpec.upto intrinsicOrderSpec)) intrinsicOrderUptoCard

/-- THE SECOND FORM's CARD OF 'wainscotlaw23.IntrinsicHolds'. -/
def intrinsicHoldsUptoCard : Claim7 := { stood := { row := intrinsicHoldsUptoRow, standIns := [], harness := (true, "2edb55afda63aa11de59937e824a9573c157f3dc758be13a2554f2b6a5d446e8"), looks := false }, kinds := [], alts := [], laidByText := true, laidKinds := [.data, .pinned], laidTests := true, laidLooks := .later }
def IntrinsicHoldsUptoCardSaid : Prop := Claim7.holds Tryz.pinned (.plain (OpenSpec.upto intrinsicHoldsSpec)) intrinsicHoldsUptoCard

/-- THE SECOND FORM's CARD OF 'wainscotlaw23.IntrinsicKids'. -/
def intrinsicKidsUptoCard : Claim7 := { stood := { row := intrinsicKidsUptoRow, standIns := [], harness := (true, "2edb55afda63aa11de59937e824a9573c157f3dc758be13a2554f2b6a5d446e8"), looks := false }, kinds := [], alts := [], laidByText := true, laidKinds := [.data, .pinned], laidTests := true, laidLooks := .later }
def IntrinsicKidsUptoCardSaid : Prop := Claim7.holds Tryz.pinned (.plain (OpenSpec.upto intrinsicKidsSpec)) intrinsicKidsUptoCard
end Rows
end Go.Proofs.YtkbnmmknjmmlmaaGreatDoor
