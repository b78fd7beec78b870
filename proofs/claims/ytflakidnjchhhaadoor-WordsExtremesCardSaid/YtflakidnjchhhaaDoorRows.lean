/-
  NARROWER THAN 'FOR EVERY INPUT', by the rows' own cells (each row's printed sentence says how): WordsSplit: laid · WordsAdvance: laid · WordsBreak: laid · WordsLies: laid · WordsRoom: laid · WordsExtremes: laid.
  DERIVED. THE GIVEN ROWS OF THIS SEAT. 6 by the template 'for every input the law returns true; each argument reads behind the call as it read before'; 0 by the template 'total and deterministic' (their statements: YtflakidnjchhhaaDoorTotals.lean).
  GIVEN WITH THE SEED: the statements are not yours to turn. If you find one false, say at which input.
  Laid BY PROGRAM, IN A SANDBOX (cutbox-rows.mjs): the forced cells as the released guide's own fill.sh prints them over the translation f37db38346ce33ed… (all of the seat's roots in one cut). By AI agents, Wed Nov 11 2026. No macro, syntax, notation, axiom, sorry.
-/
import Derived.Test.YtflakidnjchhhaaDoorChecked
import GoSem.PinnedTables
import GoSem.Claim
import GoSem.ClaimJoined
import GoSem.ClaimMapViews
import Derived.JoinedTies
import Derived.KernelRfl
namespace Go.Proofs.YtflakidnjchhhaaDoor
/- THE CELL 'sum', in the pinned program and in every row, IS THE sha256 OF THE DUMP (.gsa) THAT YtflakidnjchhhaaDoorProg.lean LOADS. Nothing in Lean hashes anything: it is a label: what it is worth is what the hold of that sum in a sandbox is worth. -/
noncomputable def Tryd.pinned : Pinned := { name := "ytflakidnjchhhaadoor", sum := "f37db38346ce33edf9cff91bf0a81887ea6c78d889125fd97450185d804eeb71", checked := Tryd.checked }
namespace Rows
def none {H : Type} : Left H := { results := [], args := [] }

/- WHAT THE LISTED PACKAGE-LEVEL VARIABLES READ AS WHEN THE CALL BEGINS. Each datum BY PROGRAM (the guide's laid-datum.mjs) off the statement by which the dump's own 'gosem.cut.vars' lays the variable. In a bare row this is a premise. The card (YtflakidnjchhhaaDoorCards.lean) ties it to the program's text. -/
def laid_unicode_utf8_acceptRanges {H : Type} : DataW H := .agg [.agg [.lit (.int .u8 128), .lit (.int .u8 191)], .agg [.lit (.int .u8 160), .lit (.int .u8 191)], .agg [.lit (.int .u8 128), .lit (.int .u8 159)], .agg [.lit (.int .u8 144), .lit (.int .u8 191)], .agg [.lit (.int .u8 128), .lit (.int .u8 143)], .agg [.lit (.int .u8 0), .lit (.int .u8 0)], .agg [.lit (.int .u8 0), .lit (.int .u8 0)], .agg [.lit (.int .u8 0), .lit (.int .u8 0)], .agg [.lit (.int .u8 0), .lit (.int .u8 0)], .agg [.lit (.int .u8 0), .lit (.int .u8 0)], .agg [.lit (.int .u8 0), .lit (.int .u8 0)], .agg [.lit (.int .u8 0), .lit (.int .u8 0)], .agg [.lit (.int .u8 0), .lit (.int .u8 0)], .agg [.lit (.int .u8 0), .lit (.int .u8 0)], .agg [.lit (.int .u8 0), .lit (.int .u8 0)], .agg [.lit (.int .u8 0), .lit (.int .u8 0)]]
/-- One of Go's own tables, pinned by name: the form's constant. -/
def laid_unicode_utf8_first : DataW Unit := Go.Pinned.utf8First

/-- 'wainscotlaw18.WordsSplit': WHATEVER THE INPUT: true; the input reads as it did. -/
def wordsSplitSpec : ChangeSpec := { name := "wordsSplit", fn := fun _ => fun
  | [d1, d2] => { results := [.lit (.bool true)], args := [d1, d2] }
  | _ => none }
def wordsSplitRow : OpenClaim := { program := "ytflakidnjchhhaadoor", sum := "f37db38346ce33edf9cff91bf0a81887ea6c78d889125fd97450185d804eeb71", func := "wainscot/wainscotlaw18.WordsSplit", spec := "wordsSplit", inPlace := ["internal/bytealg.CountString", "internal/bytealg.IndexByteString", "internal/bytealg.IndexString", "internal/abi.NoEscape", "internal/bytealg.MakeNoZero"], recurses := true, named := ["unicode/utf8.first", "unicode/utf8.acceptRanges", "internal/bytealg.MaxLen"], apart := false, laid := [("unicode/utf8.acceptRanges", laid_unicode_utf8_acceptRanges), ("unicode/utf8.first", laid_unicode_utf8_first)] }
def WordsSplitSaid : Prop := wordsSplitRow.holds Tryd.pinned (OpenSpec.ofChange wordsSplitSpec)

/-- ITS FALSE NEIGHBOUR: 'it returns false'. Refute it at one input. -/
def wordsSplitWrong : ChangeSpec := { name := "wordsSplit", fn := fun _ => fun
  | [d1, d2] => { results := [.lit (.bool false)], args := [d1, d2] }
  | _ => none }
def WordsSplitWrongFalsely : Prop := wordsSplitRow.holds Tryd.pinned (OpenSpec.ofChange wordsSplitWrong)

/-- 'wainscotlaw18.WordsAdvance': WHATEVER THE INPUT: true; the input reads as it did. -/
def wordsAdvanceSpec : ChangeSpec := { name := "wordsAdvance", fn := fun _ => fun
  | [d] => { results := [.lit (.bool true)], args := [d] }
  | _ => none }
def wordsAdvanceRow : OpenClaim := { program := "ytflakidnjchhhaadoor", sum := "f37db38346ce33edf9cff91bf0a81887ea6c78d889125fd97450185d804eeb71", func := "wainscot/wainscotlaw18.WordsAdvance", spec := "wordsAdvance", inPlace := ["internal/bytealg.CountString", "internal/bytealg.IndexByteString", "internal/bytealg.IndexString", "internal/abi.NoEscape", "internal/bytealg.MakeNoZero"], named := ["unicode/utf8.first", "unicode/utf8.acceptRanges", "internal/bytealg.MaxLen"], apart := false, laid := [("unicode/utf8.acceptRanges", laid_unicode_utf8_acceptRanges), ("unicode/utf8.first", laid_unicode_utf8_first)] }
def WordsAdvanceSaid : Prop := wordsAdvanceRow.holds Tryd.pinned (OpenSpec.ofChange wordsAdvanceSpec)

/-- ITS FALSE NEIGHBOUR: 'it returns false'. Refute it at one input. -/
def wordsAdvanceWrong : ChangeSpec := { name := "wordsAdvance", fn := fun _ => fun
  | [d] => { results := [.lit (.bool false)], args := [d] }
  | _ => none }
def WordsAdvanceWrongFalsely : Prop := wordsAdvanceRow.holds Tryd.pinned (OpenSpec.ofChange wordsAdvanceWrong)

/-- 'wainscotlaw18.WordsBreak': WHATEVER THE INPUT: true; the input reads as it did. -/
def wordsBreakSpec : ChangeSpec := { name := "wordsBreak", fn := fun _ => fun
  | [d1, d2, d3] => { results := [.lit (.bool true)], args := [d1, d2, d3] }
  | _ => none }
def wordsBreakRow : OpenClaim := { program := "ytflakidnjchhhaadoor", sum := "f37db38346ce33edf9cff91bf0a81887ea6c78d889125fd97450185d804eeb71", func := "wainscot/wainscotlaw18.WordsBreak", spec := "wordsBreak", inPlace := ["internal/bytealg.CountString", "internal/bytealg.IndexByteString", "internal/bytealg.IndexString", "internal/abi.NoEscape", "internal/bytealg.MakeNoZero"], recurses := true, named := ["unicode/utf8.first", "unicode/utf8.acceptRanges", "internal/bytealg.MaxLen"], apart := false, laid := [("unicode/utf8.acceptRanges", laid_unicode_utf8_acceptRanges), ("unicode/utf8.first", laid_unicode_utf8_first)] }
def WordsBreakSaid : Prop := wordsBreakRow.holds Tryd.pinned (OpenSpec.ofChange wordsBreakSpec)

/-- ITS FALSE NEIGHBOUR: 'it returns false'. Refute it at one input. -/
def wordsBreakWrong : ChangeSpec := { name := "wordsBreak", fn := fun _ => fun
  | [d1, d2, d3] => { results := [.lit (.bool false)], args := [d1, d2, d3] }
  | _ => none }
def WordsBreakWrongFalsely : Prop := wordsBreakRow.holds Tryd.pinned (OpenSpec.ofChange wordsBreakWrong)

/-- 'wainscotlaw18.WordsLies': WHATEVER THE INPUT: true; the input reads as it did. -/
def wordsLiesSpec : ChangeSpec := { name := "wordsLies", fn := fun _ => fun
  | [d1, d2, d3] => { results := [.lit (.bool true)], args := [d1, d2, d3] }
  | _ => none }
def wordsLiesRow : OpenClaim := { program := "ytflakidnjchhhaadoor", sum := "f37db38346ce33edf9cff91bf0a81887ea6c78d889125fd97450185d804eeb71", func := "wainscot/wainscotlaw18.WordsLies", spec := "wordsLies", inPlace := ["internal/bytealg.CountString", "internal/bytealg.IndexByteString", "internal/bytealg.IndexString", "internal/abi.NoEscape", "internal/bytealg.MakeNoZero"], named := ["unicode/utf8.first", "unicode/utf8.acceptRanges", "internal/bytealg.MaxLen"], apart := false, laid := [("unicode/utf8.acceptRanges", laid_unicode_utf8_acceptRanges), ("unicode/utf8.first", laid_unicode_utf8_first)] }
def WordsLiesSaid : Prop := wordsLiesRow.holds Tryd.pinned (OpenSpec.ofChange wordsLiesSpec)

/-- ITS FALSE NEIGHBOUR: 'it returns false'. Refute it at one input. -/
def wordsLiesWrong : ChangeSpec := { name := "wordsLies", fn := fun _ => fun
  | [d1, d2, d3] => { results := [.lit (.bool false)], args := [d1, d2, d3] }
  | _ => none }
def WordsLiesWrongFalsely : Prop := wordsLiesRow.holds Tryd.pinned (OpenSpec.ofChange wordsLiesWrong)

/-- 'wainscotlaw18.WordsRoom': WHATEVER THE INPUT: true; the input reads as it did. -/
def wordsRoomSpec : ChangeSpec := { name := "wordsRoom", fn := fun _ => fun
  | [d1, d2, d3, d4] => { results := [.lit (.bool true)], args := [d1, d2, d3, d4] }
  | _ => none }
def wordsRoomRow : OpenClaim := { program := "ytflakidnjchhhaadoor", sum := "f37db38346ce33edf9cff91bf0a81887ea6c78d889125fd97450185d804eeb71", func := "wainscot/wainscotlaw18.WordsRoom", spec := "wordsRoom", inPlace := ["internal/bytealg.CountString", "internal/bytealg.IndexByteString", "internal/bytealg.IndexString", "internal/abi.NoEscape", "internal/bytealg.MakeNoZero"], named := ["unicode/utf8.first", "unicode/utf8.acceptRanges", "internal/bytealg.MaxLen"], apart := false, laid := [("unicode/utf8.acceptRanges", laid_unicode_utf8_acceptRanges), ("unicode/utf8.first", laid_unicode_utf8_first)] }
def WordsRoomSaid : Prop := wordsRoomRow.holds Tryd.pinned (OpenSpec.ofChange wordsRoomSpec)

/-- ITS FALSE NEIGHBOUR: 'it returns false'. Refute it at one input. -/
def wordsRoomWrong : ChangeSpec := { name := "wordsRoom", fn := fun _ => fun
  | [d1, d2, d3, d4] => { results := [.lit (.bool false)], args := [d1, d2, d3, d4] }
  | _ => none }
def WordsRoomWrongFalsely : Prop := wordsRoomRow.holds Tryd.pinned (OpenSpec.ofChange wordsRoomWrong)

/-- 'wainscotlaw18.WordsExtremes': WHATEVER THE INPUT: true; the input reads as it did. -/
def wordsExtremesSpec : ChangeSpec := { name := "wordsExtremes", fn := fun _ => fun
  | [d1, d2, d3, d4] => { results := [.lit (.bool true)], args := [d1, d2, d3, d4] }
  | _ => none }
def wordsExtremesRow : OpenClaim := { program := "ytflakidnjchhhaadoor", sum := "f37db38346ce33edf9cff91bf0a81887ea6c78d889125fd97450185d804eeb71", func := "wainscot/wainscotlaw18.WordsExtremes", spec := "wordsExtremes", inPlace := ["internal/bytealg.CountString", "internal/bytealg.IndexByteString", "internal/bytealg.IndexString", "internal/abi.NoEscape", "internal/bytealg.MakeNoZero"], recurses := true, named := ["unicode/utf8.first", "unicode/utf8.acceptRanges", "internal/bytealg.MaxLen"], apart := false, laid := [("unicode/utf8.acceptRanges", laid_unicode_utf8_acceptRanges), ("unicode/utf8.first", laid_unicode_utf8_first)] }
def WordsExtremesSaid : Prop := wordsExtremesRow.holds Tryd.pinned (OpenSpec.ofChange wordsExtremesSpec)

/-- ITS FALSE NEIGHBOUR: 'it returns false'. Refute it at one input. -/
def wordsExtremesWrong : ChangeSpec := { name := "wordsExtremes", fn := fun _ => fun
  | [d1, d2, d3, d4] => { results := [.lit (.bool false)], args := [d1, d2, d3, d4] }
  | _ => none }
def WordsExtremesWrongFalsely : Prop := wordsExtremesRow.holds Tryd.pinned (OpenSpec.ofChange wordsExtremesWrong)

/- THE SECOND FORM. 'bulk': how many values and letters a reading holds, each counted each time it is reached (what is shared counts as often as it is met; a slice's spare places count too). A statement '..UptoSaid' is the law's where the arguments, and the package variables that the reading takes, are together of bulk at most 1048576: NARROWER than '..Said'. Prove '..Said' where nothing that the law and all that it calls make is longer than what came in: it says more and counts as full. Else prove '..UptoSaid'. A law counts once. -/
mutual
def uptoBulk {H : Type} : DataW H → Nat
  | .lit (.string bytes) => bytes.length + 1
  | .lit _ => 1
  | .nil => 1
  | .ptr d => uptoBulk d + 1
  | .slice elems spare => uptoBulkAll elems + uptoBulkAll spare + 1
  | .agg parts => uptoBulkAll parts + 1
  | .iface _ d => uptoBulk d + 1
  | .map entries => uptoBulkEntries entries + 1
  | .held _ => 1
def uptoBulkAll {H : Type} : List (DataW H) → Nat
  | [] => 0
  | d :: r => uptoBulk d + uptoBulkAll r
def uptoBulkEntries {H : Type} : List (Lit × DataW H) → Nat
  | [] => 0
  | x :: r => uptoBulkEntry x + uptoBulkEntries r
def uptoBulkEntry {H : Type} : Lit × DataW H → Nat
  | (.string bytes, d) => bytes.length + uptoBulk d + 1
  | (_, d) => uptoBulk d + 1
 end
def uptoSmall : (H : Type) → List (DataW H) → Bool := fun _ ds => decide (uptoBulkAll ds ≤ 1048576)
def OpenSpec.upto (s : _root_.Go.ChangeSpec) : _root_.Go.OpenSpec := { _root_.Go.OpenSpec.ofChange s with cond := some uptoSmall }

/-- 'wainscotlaw18.WordsSplit', WHERE WHAT IT READS IS OF BULK AT MOST 1048576: true; the input reads as it did. -/
def wordsSplitUptoRow : OpenClaim := { program := "ytflakidnjchhhaadoor", sum := "f37db38346ce33edf9cff91bf0a81887ea6c78d889125fd97450185d804eeb71", func := "wainscot/wainscotlaw18.WordsSplit", spec := "wordsSplit", inPlace := ["internal/bytealg.CountString", "internal/bytealg.IndexByteString", "internal/bytealg.IndexString", "internal/abi.NoEscape", "internal/bytealg.MakeNoZero"], recurses := true, named := ["unicode/utf8.first", "unicode/utf8.acceptRanges", "internal/bytealg.MaxLen"], apart := false, laid := [("unicode/utf8.acceptRanges", laid_unicode_utf8_acceptRanges), ("unicode/utf8.first", laid_unicode_utf8_first)], narrowed := true }
def WordsSplitUptoSaid : Prop := wordsSplitUptoRow.holds Tryd.pinned (OpenSpec.upto wordsSplitSpec)

/-- 'wainscotlaw18.WordsAdvance', WHERE WHAT IT READS IS OF BULK AT MOST 1048576: true; the input reads as it did. -/
def wordsAdvanceUptoRow : OpenClaim := { program := "ytflakidnjchhhaadoor", sum := "f37db38346ce33edf9cff91bf0a81887ea6c78d889125fd97450185d804eeb71", func := "wainscot/wainscotlaw18.WordsAdvance", spec := "wordsAdvance", inPlace := ["internal/bytealg.CountString", "internal/bytealg.IndexByteString", "internal/bytealg.IndexString", "internal/abi.NoEscape", "internal/bytealg.MakeNoZero"], named := ["unicode/utf8.first", "unicode/utf8.acceptRanges", "internal/bytealg.MaxLen"], apart := false, laid := [("unicode/utf8.acceptRanges", laid_unicode_utf8_acceptRanges), ("unicode/utf8.first", laid_unicode_utf8_first)], narrowed := true }
def WordsAdvanceUptoSaid : Prop := wordsAdvanceUptoRow.holds Tryd.pinned (OpenSpec.upto wordsAdvanceSpec)

/-- 'wainscotlaw18.WordsBreak', WHERE WHAT IT READS IS OF BULK AT MOST 1048576: true; the input reads as it did. -/
def wordsBreakUptoRow : OpenClaim := { program := "ytflakidnjchhhaadoor", sum := "f37db38346ce33edf9cff91bf0a81887ea6c78d889125fd97450185d804eeb71", func := "wainscot/wainscotlaw18.WordsBreak", spec := "wordsBreak", inPlace := ["internal/bytealg.CountString", "internal/bytealg.IndexByteString", "internal/bytealg.IndexString", "internal/abi.NoEscape", "internal/bytealg.MakeNoZero"], recurses := true, named := ["unicode/utf8.first", "unicode/utf8.acceptRanges", "internal/bytealg.MaxLen"], apart := false, laid := [("unicode/utf8.acceptRanges", laid_unicode_utf8_acceptRanges), ("unicode/utf8.first", laid_unicode_utf8_first)], narrowed := true }
def WordsBreakUptoSaid : Prop := wordsBreakUptoRow.holds Tryd.pinned (OpenSpec.upto wordsBreakSpec)

/-- 'wainscotlaw18.WordsLies', WHERE WHAT IT READS IS OF BULK AT MOST 1048576: true; the input reads as it did. -/
def wordsLiesUptoRow : OpenClaim := { program := "ytflakidnjchhhaadoor", sum := "f37db38346ce33edf9cff91bf0a81887ea6c78d889125fd97450185d804eeb71", func := "wainscot/wainscotlaw18.WordsLies", spec := "wordsLies", inPlace := ["internal/bytealg.CountString", "internal/bytealg.IndexByteString", "internal/bytealg.IndexString", "internal/abi.NoEscape", "internal/bytealg.MakeNoZero"], named := ["unicode/utf8.first", "unicode/utf8.acceptRanges", "internal/bytealg.MaxLen"], apart := false, laid := [("unicode/utf8.acceptRanges", laid_unicode_utf8_acceptRanges), ("unicode/utf8.first", laid_unicode_utf8_first)], narrowed := true }
def WordsLiesUptoSaid : Prop := wordsLiesUptoRow.holds Tryd.pinned (OpenSpec.upto wordsLiesSpec)

/-- 'wainscotlaw18.WordsRoom', WHERE WHAT IT READS IS OF BULK AT MOST 1048576: true; the input reads as it did. -/
def wordsRoomUptoRow : OpenClaim := { program := "ytflakidnjchhhaadoor", sum := "f37db38346ce33edf9cff91bf0a81887ea6c78d889125fd97450185d804eeb71", func := "wainscot/wainscotlaw18.WordsRoom", spec := "wordsRoom", inPlace := ["internal/bytealg.CountString", "internal/bytealg.IndexByteString", "internal/bytealg.IndexString", "internal/abi.NoEscape", "internal/bytealg.MakeNoZero"], named := ["unicode/utf8.first", "unicode/utf8.acceptRanges", "internal/bytealg.MaxLen"], apart := false, laid := [("unicode/utf8.acceptRanges", laid_unicode_utf8_acceptRanges), ("unicode/utf8.first", laid_unicode_utf8_first)], narrowed := true }
def WordsRoomUptoSaid : Prop := wordsRoomUptoRow.holds Tryd.pinned (OpenSpec.upto wordsRoomSpec)

/-- 'wainscotlaw18.WordsExtremes', WHERE WHAT IT READS IS OF BULK AT MOST 1048576: true; the input reads as it did. -/
def wordsExtremesUptoRow : OpenClaim := { program := "ytflakidnjchhhaadoor", sum := "f37db38346ce33edf9cff91bf0a81887ea6c78d889125fd97450185d804eeb71", func := "wainscot/wainscotlaw18.WordsExtremes", spec := "wordsExtremes", inPlace := ["internal/bytealg.CountString", "internal/bytealg.IndexByteString", "internal/bytealg.IndexString", "internal/abi.NoEscape", "internal/bytealg.MakeNoZero"], recurses := true, named := ["unicode/utf8.first", "unicode/utf8.acceptRanges", "internal/bytealg.MaxLen"], apart := false, laid := [("unicode/utf8.acceptRanges", laid_unicode_utf8_acceptRanges), ("unicode/utf8.first", laid_unicode_utf8_first)], narrowed := true }
def WordsExtremesUptoSaid : Prop := wordsExtremesUptoRow.holds Tryd.pinned (OpenSpec.upto wordsExtremesSpec)

end Rows
end Go.Proofs.YtflakidnjchhhaaDoor
