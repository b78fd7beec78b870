/-
  DERIVED. GIVEN WITH THE SEED: THE CARDS: each row of YtflakidnjchhhaaDoorRows.lean that lists a variable, with what it lists TIED to the program's text (the seventh form; the later family's looks); each row that meets fmt, with fmt's text TOLD by the authors' own Lean function (tested against real Go, not proved from fmt's source: count such statements apart). THE CARD IS WHAT COUNTS. Prove the row's statement (the work); the ties are given (YtflakidnjchhhaaDoorTie.lean); close each card by the builder's one call (the guide's Derived/Test/ToyasCard.lean, 'card_holds'). Laid BY PROGRAM, IN A SANDBOX (cutbox-door.mjs). By AI agents, Wed Nov 11 2026. No macro, syntax, notation, axiom, sorry.
-/
import Derived.Test.YtflakidnjchhhaaDoorRows
import GoSem.ClaimSeven
namespace Go.Proofs.YtflakidnjchhhaaDoor
namespace Rows

/-- THE TIED CARD OF 'wainscotlaw18.WordsSplit'. -/
def wordsSplitCard : Claim7 := { stood := { row := wordsSplitRow, standIns := [], harness := (true, "0439edec4d83cae0fe6d3cd9086dc23d16b29c59f0beb69947fd966eb6a0e4d0"), looks := false }, kinds := [], alts := [], laidByText := true, laidKinds := [.data, .pinned], laidTests := true, laidLooks := .later }
def WordsSplitCardSaid : Prop := Claim7.holds Tryd.pinned (.plain (OpenSpec.ofChange wordsSplitSpec)) wordsSplitCard

/-- THE TIED CARD OF 'wainscotlaw18.WordsAdvance'. -/
def wordsAdvanceCard : Claim7 := { stood := { row := wordsAdvanceRow, standIns := [], harness := (true, "0439edec4d83cae0fe6d3cd9086dc23d16b29c59f0beb69947fd966eb6a0e4d0"), looks := false }, kinds := [], alts := [], laidByText := true, laidKinds := [.data, .pinned], laidTests := true, laidLooks := .later }
def WordsAdvanceCardSaid : Prop := Claim7.holds Tryd.pinned (.plain (OpenSpec.ofChange wordsAdvanceSpec)) wordsAdvanceCard

/-- THE TIED CARD OF 'wainscotlaw18.WordsBreak'. -/
def wordsBreakCard : Claim7 := { stood := { row := wordsBreakRow, standIns := [], harness := (true, "0439edec4d83cae0fe6d3cd9086dc23d16b29c59f0beb69947fd966eb6a0e4d0"), looks := false }, kinds := [], alts := [], laidByText := true, laidKinds := [.data, .pinned], laidTests := true, laidLooks := .later }
def WordsBreakCardSaid : Prop := Claim7.holds Tryd.pinned (.plain (OpenSpec.ofChange wordsBreakSpec)) wordsBreakCard

/-- THE TIED CARD OF 'wainscotlaw18.WordsLies'. -/
def wordsLiesCard : Claim7 := { stood := { row := wordsLiesRow, standIns := [], harness := (true, "0439edec4d83cae0fe6d3cd9086dc23d16b29c59f0beb69947fd966eb6a0e4d0"), looks := false }, kinds := [], alts := [], laidByText := true, laidKinds := [.data, .pinned], laidTests := true, laidLooks := .later }
def WordsLiesCardSaid : Prop := Claim7.holds Tryd.pinned (.plain (OpenSpec.ofChange wordsLiesSpec)) wordsLiesCard

/-- THE TIED CARD OF 'wainscotlaw18.WordsRoom'. -/
def wordsRoomCard : Claim7 := { stood := { row := wordsRoomRow, standIns := [], harness := (true, "0439edec4d83cae0fe6d3cd9086dc23d16b29c59f0beb69947fd966eb6a0e4d0"), looks := false }, kinds := [], alts := [], laidByText := true, laidKinds := [.data, .pinned], laidTests := true, laidLooks := .later }
def WordsRoomCardSaid : Prop := Claim7.holds Tryd.pinned (.plain (OpenSpec.ofChange wordsRoomSpec)) wordsRoomCard

/-- THE TIED CARD OF 'wainscotlaw18.WordsExtremes'. -/
def wordsExtremesCard : Claim7 := { stood := { row := wordsExtremesRow, standIns := [], harness := (true, "0439edec4d83cae0fe6d3cd9086dc23d16b29c59f0beb69947fd966eb6a0e4d0"), looks := false }, kinds := [], alts := [], laidByText := true, laidKinds := [.data, .pinned], laidTests := true, laidLooks := .later }
def WordsExtremesCardSaid : Prop := Claim7.holds Tryd.pinned (.plain (OpenSpec.ofChange wordsExtremesSpec)) wordsExtremesCard

/-- THE SECOND FORM's CARD OF 'wainscotlaw18.WordsSplit'. -/
def wordsSplitUptoCard : Claim7 := { stood := { row := wordsSplitUptoRow, standIns := [], harness := (true, "0439edec4d83cae0fe6d3cd9086dc23d16b29c59f0beb69947fd966eb6a0e4d0"), looks := false }, kinds := [], alts := [], laidByText := true, laidKinds := [.data, .pinned], laidTests := true, laidLooks := .later }
def WordsSplitUptoCardSaid : Prop := Claim7.holds Tryd.pinned (.plain (OpenSpec.upto wordsSplitSpec)) wordsSplitUptoCard

/-- THE SECOND FORM's CARD OF 'wainscotlaw18.WordsAdvance'. -/
def wordsAdvanceUptoCard : Claim7 := { stood := { row := wordsAdvanceUptoRow, standIns := [], harness := (true, "0439edec4d83cae0fe6d3cd9086dc23d16b29c59f0beb69947fd966eb6a0e4d0"), looks := false }, kinds := [], alts := [], laidByText := true, laidKinds := [.data, .pinned], laidTests := true, laidLooks := .later }
def WordsAdvanceUptoCardSaid : Prop := Claim7.holds Tryd.pinned (.plain (OpenSpec.upto wordsAdvanceSpec)) wordsAdvanceUptoCard

/-- THE SECOND FORM's CARD OF 'wainscotlaw18.WordsBreak'. -/
def wordsBreakUptoCard : Claim7 := { stood := { row := wordsBreakUptoRow, standIns := [], harness := (true, "0439edec4d83cae0fe6d3cd9086dc23d16b29c59f0beb69947fd966eb6a0e4d0"), looks := false }, kinds := [], alts := [], laidByText := true, laidKinds := [.data, .pinned], laidTests := true, laidLooks := .later }
def WordsBreakUptoCardSaid : Prop := Claim7.holds Tryd.pinned (.plain (OpenSpec.upto wordsBreakSpec)) wordsBreakUptoCard

/-- THE SECOND FORM's CARD OF 'wainscotlaw18.WordsLies'. -/
def wordsLiesUptoCard : Claim7 := { stood := { row := wordsLiesUptoRow, standIns := [], harness := (true, "0439edec4d83cae0fe6d3cd9086dc23d16b29c59f0beb69947fd966eb6a0e4d0"), looks := false }, kinds := [], alts := [], laidByText := true, laidKinds := [.data, .pinned], laidTests := true, laidLooks := .later }
def WordsLiesUptoCardSaid : Prop := Claim7.holds Tryd.pinned (.plain (OpenSpec.upto wordsLiesSpec)) wordsLiesUptoCard

/-- THE SECOND FORM's CARD OF 'wainscotlaw18.WordsRoom'. -/
def wordsRoomUptoCard : Claim7 := { stood := { row := wordsRoomUptoRow, standIns := [], harness := (true, "0439edec4d83cae0fe6d3cd9086dc23d16b29c59f0beb69947fd966eb6a0e4d0"), looks := false }, kinds := [], alts := [], laidByText := true, laidKinds := [.data, .pinned], laidTests := true, laidLooks := .later }
def WordsRoomUptoCardSaid : Prop := Claim7.holds Tryd.pinned (.plain (OpenSpec.upto wordsRoomSpec)) wordsRoomUptoCard

/-- THE SECOND FORM's CARD OF 'wainscotlaw18.WordsExtremes'. -/
def wordsExtremesUptoCard : Claim7 := { stood := { row := wordsExtremesUptoRow, standIns := [], harness := (true, "0439edec4d83cae0fe6d3cd9086dc23d16b29c59f0beb69947fd966eb6a0e4d0"), looks := false }, kinds := [], alts := [], laidByText := true, laidKinds := [.data, .pinned], laidTests := true, laidLooks := .later }
def WordsExtremesUptoCardSaid : Prop := Claim7.holds Tryd.pinned (.plain (OpenSpec.upto wordsExtremesSpec)) wordsExtremesUptoCard
end Rows
end Go.Proofs.YtflakidnjchhhaaDoor
