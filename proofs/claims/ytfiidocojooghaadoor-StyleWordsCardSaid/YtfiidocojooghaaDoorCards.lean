/-
  DERIVED. GIVEN WITH THE SEED: THE CARDS: each row of YtfiidocojooghaaDoorRows.lean that lists a variable, with what it lists TIED to the program's text (the seventh form; the later family's looks); each row that meets fmt, with fmt's text TOLD by the authors' own Lean function (tested against real Go, not proved from fmt's source: count such statements apart). THE CARD IS WHAT COUNTS. Prove the row's statement (the work); the ties are given (YtfiidocojooghaaDoorTie.lean); close each card by the builder's one call (the guide's Derived/Test/ToyasCard.lean, 'card_holds'). Laid BY PROGRAM, IN A SANDBOX (cutbox-door.mjs). By AI agents, Wed Nov 11 2026. No macro, syntax, notation, axiom, sorry.
-/
import Derived.Test.YtfiidocojooghaaDoorRows
import GoSem.ClaimSeven
namespace Go.Proofs.YtfiidocojooghaaDoor
namespace Rows

/-- THE TIED CARD OF 'wainscotlaw17.StyleNothing'. -/
def styleNothingCard : Claim7 := { stood := { row := styleNothingRow, standIns := [], harness := (true, "60bde3da58be87093ff5766e82d9a172712277dc784171c0583bb5c55f774eb8"), looks := false }, kinds := [], alts := [], laidByText := true, laidKinds := [.data, .pinned], laidTests := true, laidLooks := .later }
def StyleNothingCardSaid : Prop := Claim7.holds Tryd.pinned (.plain (OpenSpec.ofChange styleNothingSpec)) styleNothingCard

/-- THE TIED CARD OF 'wainscotlaw17.StyleInherits'. -/
def styleInheritsCard : Claim7 := { stood := { row := styleInheritsRow, standIns := [], harness := (true, "60bde3da58be87093ff5766e82d9a172712277dc784171c0583bb5c55f774eb8"), looks := false }, kinds := [], alts := [], laidByText := true, laidKinds := [.data, .pinned], laidTests := true, laidLooks := .later }
def StyleInheritsCardSaid : Prop := Claim7.holds Tryd.pinned (.plain (OpenSpec.ofChange styleInheritsSpec)) styleInheritsCard

/-- THE TIED CARD OF 'wainscotlaw17.StyleBases'. -/
def styleBasesCard : Claim7 := { stood := { row := styleBasesRow, standIns := [], harness := (true, "60bde3da58be87093ff5766e82d9a172712277dc784171c0583bb5c55f774eb8"), looks := false }, kinds := [], alts := [], laidByText := true, laidKinds := [.data, .pinned], laidTests := true, laidLooks := .later }
def StyleBasesCardSaid : Prop := Claim7.holds Tryd.pinned (.plain (OpenSpec.ofChange styleBasesSpec)) styleBasesCard

/-- THE TIED CARD OF 'wainscotlaw17.StyleApart'. -/
def styleApartCard : Claim7 := { stood := { row := styleApartRow, standIns := [], harness := (true, "60bde3da58be87093ff5766e82d9a172712277dc784171c0583bb5c55f774eb8"), looks := false }, kinds := [], alts := [], laidByText := true, laidKinds := [.data, .pinned], laidTests := true, laidLooks := .later }
def StyleApartCardSaid : Prop := Claim7.holds Tryd.pinned (.plain (OpenSpec.ofChange styleApartSpec)) styleApartCard

/-- THE TIED CARD OF 'wainscotlaw17.StyleWords'. -/
def styleWordsCard : Claim7 := { stood := { row := styleWordsRow, standIns := [], harness := (true, "60bde3da58be87093ff5766e82d9a172712277dc784171c0583bb5c55f774eb8"), looks := false }, kinds := [], alts := [], laidByText := true, laidKinds := [.data, .pinned], laidTests := true, laidLooks := .later }
def StyleWordsCardSaid : Prop := Claim7.holds Tryd.pinned (.plain (OpenSpec.ofChange styleWordsSpec)) styleWordsCard

/-- THE SECOND FORM's CARD OF 'wainscotlaw17.StyleNothing'. -/
def styleNothingUptoCard : Claim7 := { stood := { row := styleNothingUptoRow, standIns := [], harness := (true, "60bde3da58be87093ff5766e82d9a172712277dc784171c0583bb5c55f774eb8"), looks := false }, kinds := [], alts := [], laidByText := true, laidKinds := [.data, .pinned], laidTests := true, laidLooks := .later }
def StyleNothingUptoCardSaid : Prop := Claim7.holds Tryd.pinned (.plain (OpenSpec.upto styleNothingSpec)) styleNothingUptoCard

/-- THE SECOND FORM's CARD OF 'wainscotlaw17.StyleInherits'. -/
def styleInheritsUptoCard : Claim7 := { stood := { row := styleInheritsUptoRow, standIns := [], harness := (true, "60bde3da58be87093ff5766e82d9a172712277dc784171c0583bb5c55f774eb8"), looks := false }, kinds := [], alts := [], laidByText := true, laidKinds := [.data, .pinned], laidTests := true, laidLooks := .later }
def StyleInheritsUptoCardSaid : Prop := Claim7.holds Tryd.pinned (.plain (OpenSpec.upto styleInheritsSpec)) styleInheritsUptoCard

/-- THE SECOND FORM's CARD OF 'wainscotlaw17.StyleBases'. -/
def styleBasesUptoCard : Claim7 := { stood := { row := styleBasesUptoRow, standIns := [], harness := (true, "60bde3da58be87093ff5766e82d9a172712277dc784171c0583bb5c55f774eb8"), looks := false }, kinds := [], alts := [], laidByText := true, laidKinds := [.data, .pinned], laidTests := true, laidLooks := .later }
def StyleBasesUptoCardSaid : Prop := Claim7.holds Tryd.pinned (.plain (OpenSpec.upto styleBasesSpec)) styleBasesUptoCard

/-- THE SECOND FORM's CARD OF 'wainscotlaw17.StyleApart'. -/
def styleApartUptoCard : Claim7 := { stood := { row := styleApartUptoRow, standIns := [], harness := (true, "60bde3da58be87093ff5766e82d9a172712277dc784171c0583bb5c55f774eb8"), looks := false }, kinds := [], alts := [], laidByText := true, laidKinds := [.data, .pinned], laidTests := true, laidLooks := .later }
def StyleApartUptoCardSaid : Prop := Claim7.holds Tryd.pinned (.plain (OpenSpec.upto styleApartSpec)) styleApartUptoCard

/-- THE SECOND FORM's CARD OF 'wainscotlaw17.StyleWords'. -/
def styleWordsUptoCard : Claim7 := { stood := { row := styleWordsUptoRow, standIns := [], harness := (true, "60bde3da58be87093ff5766e82d9a172712277dc784171c0583bb5c55f774eb8"), looks := false }, kinds := [], alts := [], laidByText := true, laidKinds := [.data, .pinned], laidTests := true, laidLooks := .later }
def StyleWordsUptoCardSaid : Prop := Claim7.holds Tryd.pinned (.plain (OpenSpec.upto styleWordsSpec)) styleWordsUptoCard
end Rows
end Go.Proofs.YtfiidocojooghaaDoor
