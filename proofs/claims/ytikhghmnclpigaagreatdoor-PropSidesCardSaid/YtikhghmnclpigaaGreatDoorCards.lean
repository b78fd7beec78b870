/-
  DERIVED. GIVEN WITH THE SEED: THE CARDS: each row of YtikhghmnclpigaaGreatDoorRows.lean that lists a variable, with what it lists TIED to the program's text (the seventh form; the later family's looks); each row that meets fmt, with fmt's text TOLD by the authors' own Lean function (tested against real Go, not proved from fmt's source: count such statements apart). THE CARD IS WHAT COUNTS. Prove the row's statement (the work); the ties are given (YtikhghmnclpigaaGreatDoorTie.lean); close each card by the builder's one call (the guide's Derived/Test/ToyasCard.lean, 'card_holds'). Laid BY PROGRAM, IN A SANDBOX (cutbox-door.mjs). By AI agents, Wed Nov 11 2026. No macro, syntax, notation, axiom, sorry.
-/
import Derived.Test.YtikhghmnclpigaaGreatDoorRows
import GoSem.ClaimSeven
namespace Go.Proofs.YtikhghmnclpigaaGreatDoor
namespace Rows

/-- THE TIED CARD OF 'wainscotlaw10.PropTakes'. -/
def propTakesCard : Claim7 := { stood := { row := propTakesRow, standIns := [], harness := (true, "987b439ebf9293f0c4112bba3310195589e13f5587f5185bce94c9563472c68d"), looks := false }, kinds := [], alts := [], laidByText := true, laidKinds := [.data, .pinned], laidTests := true, laidLooks := .later }
def PropTakesCardSaid : Prop := Claim7.holds Tryz.pinned (.plain (OpenSpec.ofChange propTakesSpec)) propTakesCard

/-- THE TIED CARD OF 'wainscotlaw10.PropSides'. -/
def propSidesCard : Claim7 := { stood := { row := propSidesRow, standIns := [], harness := (true, "987b439ebf9293f0c4112bba3310195589e13f5587f5185bce94c9563472c68d"), looks := false }, kinds := [], alts := [], laidByText := true, laidKinds := [.data, .pinned], laidTests := true, laidLooks := .later }
def PropSidesCardSaid : Prop := Claim7.holds Tryz.pinned (.plain (OpenSpec.ofChange propSidesSpec)) propSidesCard

/-- THE TIED CARD OF 'wainscotlaw10.PropWords'. -/
def propWordsCard : Claim7 := { stood := { row := propWordsRow, standIns := [], harness := (true, "987b439ebf9293f0c4112bba3310195589e13f5587f5185bce94c9563472c68d"), looks := false }, kinds := [], alts := [], laidByText := true, laidKinds := [.data, .pinned], laidTests := true, laidLooks := .later }
def PropWordsCardSaid : Prop := Claim7.holds Tryz.pinned (.plain (OpenSpec.ofChange propWordsSpec)) propWordsCard

/-- THE TIED CARD OF 'wainscotlaw10.PropNames'. -/
def propNamesCard : Claim7 := { stood := { row := propNamesRow, standIns := [], harness := (true, "987b439ebf9293f0c4112bba3310195589e13f5587f5185bce94c9563472c68d"), looks := false }, kinds := [], alts := [], laidByText := true, laidKinds := [.data, .pinned], laidTests := true, laidLooks := .later }
def PropNamesCardSaid : Prop := Claim7.holds Tryz.pinned (.plain (OpenSpec.ofChange propNamesSpec)) propNamesCard

/-- THE TIED CARD OF 'wainscotlaw10.PropBack'. -/
def propBackCard : Claim7 := { stood := { row := propBackRow, standIns := [], harness := (true, "987b439ebf9293f0c4112bba3310195589e13f5587f5185bce94c9563472c68d"), looks := false }, kinds := [], alts := [], laidByText := true, laidKinds := [.data, .pinned], laidTests := true, laidLooks := .later }
def PropBackCardSaid : Prop := Claim7.holds Tryz.pinned (.plain (OpenSpec.ofChange propBackSpec)) propBackCard

/-- THE SECOND FORM's CARD OF 'wainscotlaw10.PropTakes'. -/
def propTakesUptoCard : Claim7 := { stood := { row := propTakesUptoRow, standIns := [], harness := (true, "987b439ebf9293f0c4112bba3310195589e13f5587f5185bce94c9563472c68d"), looks := false }, kinds := [], alts := [], laidByText := true, laidKinds := [.data, .pinned], laidTests := true, laidLooks := .later }
def PropTakesUptoCardSaid : Prop := Claim7.holds Tryz.pinned (.plain (OpenSpec.upto propTakesSpec)) propTakesUptoCard

/-- THE SECOND FORM's CARD OF 'wainscotlaw10.PropSides'. -/
def propSidesUptoCard : Claim7 := { stood := { row := propSidesUptoRow, standIns := [], harness := (true, "987b439ebf9293f0c4112bba3310195589e13f5587f5185bce94c9563472c68d"), looks := false }, kinds := [], alts := [], laidByText := true, laidKinds := [.data, .pinned], laidTests := true, laidLooks := .later }
def PropSidesUptoCardSaid : Prop := Claim7.holds Tryz.pinned (.plain (OpenSpec.upto propSidesSpec)) propSidesUptoCard

/-- THE SECOND FORM's CARD OF 'wainscotlaw10.PropWords'. -/
def propWordsUptoCard : Claim7 := { stood := { row := propWordsUptoRow, standIns := [], harness := (true, "987b439ebf9293f0c4112bba3310195589e13f5587f5185bce94c9563472c68d"), looks := false }, kinds := [], alts := [], laidByText := true, laidKinds := [.data, .pinned], laidTests := true, laidLooks := .later }
def PropWordsUptoCardSaid : Prop := Claim7.holds Tryz.pinned (.plain (OpenSpec.upto propWordsSpec)) propWordsUptoCard

/-- THE SECOND FORM's CARD OF 'wainscotlaw10.PropNames'. -/
def propNamesUptoCard : Claim7 := { stood := { row := propNamesUptoRow, standIns := [], harness := (true, "987b439ebf9293f0c4112bba3310195589e13f5587f5185bce94c9563472c68d"), looks := false }, kinds := [], alts := [], laidByText := true, laidKinds := [.data, .pinned], laidTests := true, laidLooks := .later }
def PropNamesUptoCardSaid : Prop := Claim7.holds Tryz.pinned (.plain (OpenSpec.upto propNamesSpec)) propNamesUptoCard

/-- THE SECOND FORM's CARD OF 'wainscotlaw10.PropBack'. -/
def propBackUptoCard : Claim7 := { stood := { row := propBackUptoRow, standIns := [], harness := (true, "987b439ebf9293f0c4112bba3310195589e13f5587f5185bce94c9563472c68d"), looks := false }, kinds := [], alts := [], laidByText := true, laidKinds := [.data, .pinned], laidTests := true, laidLooks := .later }
def PropBackUptoCardSaid : Prop := Claim7.holds Tryz.pinned (.plain (OpenSpec.upto propBackSpec)) propBackUptoCard
end Rows
end Go.Proofs.YtikhghmnclpigaaGreatDoor
