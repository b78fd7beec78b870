/-
  NARROWER THAN 'FOR EVERY INPUT', by the rows' own cells (each row's printed sentence says how): StyleNothing: laid · StyleInherits: laid · StyleBases: laid · StyleApart: laid · StyleWords: laid.
  DERIVED. THE GIVEN ROWS OF THIS SEAT. 5 by the template 'for every input the law returns true; each argument reads behind the call as it read before'; 0 by the template 'total and deterministic' (their statements: YtfiidocojooghaaDoorTotals.lean).
  GIVEN WITH THE SEED: the statements are not yours to turn. If you find one false, say at which input.
  Laid BY PROGRAM, IN A SANDBOX (cutbox-rows.mjs): the forced cells as the released guide's own fill.sh prints them over the translation 784ed18fba8f3e27… (all of the seat's roots in one cut). By AI agents, Wed Nov 11 2026. No macro, syntax, notation, axiom, sorry.
-/
import Derived.Test.YtfiidocojooghaaDoorChecked
import GoSem.PinnedTables
import GoSem.Claim
import GoSem.ClaimJoined
import GoSem.ClaimMapViews
import Derived.JoinedTies
import Derived.KernelRfl
namespace Go.Proofs.YtfiidocojooghaaDoor
/- THE CELL 'sum', in the pinned program and in every row, IS THE sha256 OF THE DUMP (.gsa) THAT YtfiidocojooghaaDoorProg.lean LOADS. Nothing in Lean hashes anything: it is a label: what it is worth is what the hold of that sum in a sandbox is worth. -/
noncomputable def Tryd.pinned : Pinned := { name := "ytfiidocojooghaadoor", sum := "784ed18fba8f3e27ff95c8a7afe53ced939e7e259d6e7ec18daacacf9487560b", checked := Tryd.checked }
namespace Rows
def none {H : Type} : Left H := { results := [], args := [] }

/- WHAT THE LISTED PACKAGE-LEVEL VARIABLES READ AS WHEN THE CALL BEGINS. Each datum BY PROGRAM (the guide's laid-datum.mjs) off the statement by which the dump's own 'gosem.cut.vars' lays the variable. In a bare row this is a premise. The card (YtfiidocojooghaaDoorCards.lean) ties it to the program's text. -/
def laid_unicode_utf8_acceptRanges {H : Type} : DataW H := .agg [.agg [.lit (.int .u8 128), .lit (.int .u8 191)], .agg [.lit (.int .u8 160), .lit (.int .u8 191)], .agg [.lit (.int .u8 128), .lit (.int .u8 159)], .agg [.lit (.int .u8 144), .lit (.int .u8 191)], .agg [.lit (.int .u8 128), .lit (.int .u8 143)], .agg [.lit (.int .u8 0), .lit (.int .u8 0)], .agg [.lit (.int .u8 0), .lit (.int .u8 0)], .agg [.lit (.int .u8 0), .lit (.int .u8 0)], .agg [.lit (.int .u8 0), .lit (.int .u8 0)], .agg [.lit (.int .u8 0), .lit (.int .u8 0)], .agg [.lit (.int .u8 0), .lit (.int .u8 0)], .agg [.lit (.int .u8 0), .lit (.int .u8 0)], .agg [.lit (.int .u8 0), .lit (.int .u8 0)], .agg [.lit (.int .u8 0), .lit (.int .u8 0)], .agg [.lit (.int .u8 0), .lit (.int .u8 0)], .agg [.lit (.int .u8 0), .lit (.int .u8 0)]]
/-- One of Go's own tables, pinned by name: the form's constant. -/
def laid_unicode_utf8_first : DataW Unit := Go.Pinned.utf8First

/-- 'wainscotlaw17.StyleNothing': WHATEVER THE INPUT: true; the input reads as it did. -/
def styleNothingSpec : ChangeSpec := { name := "styleNothing", fn := fun _ => fun
  | [d1, d2, d3] => { results := [.lit (.bool true)], args := [d1, d2, d3] }
  | _ => none }
def styleNothingRow : OpenClaim := { program := "ytfiidocojooghaadoor", sum := "784ed18fba8f3e27ff95c8a7afe53ced939e7e259d6e7ec18daacacf9487560b", func := "wainscot/wainscotlaw17.StyleNothing", spec := "styleNothing", inPlace := ["internal/bytealg.CountString", "internal/bytealg.IndexByteString", "internal/bytealg.IndexString"], unfollowed := true, recurses := true, named := ["unicode/utf8.first", "unicode/utf8.acceptRanges", "internal/bytealg.MaxLen"], apart := false, laid := [("unicode/utf8.acceptRanges", laid_unicode_utf8_acceptRanges), ("unicode/utf8.first", laid_unicode_utf8_first)] }
def StyleNothingSaid : Prop := styleNothingRow.holds Tryd.pinned (OpenSpec.ofChange styleNothingSpec)

/-- ITS FALSE NEIGHBOUR: 'it returns false'. Refute it at one input. -/
def styleNothingWrong : ChangeSpec := { name := "styleNothing", fn := fun _ => fun
  | [d1, d2, d3] => { results := [.lit (.bool false)], args := [d1, d2, d3] }
  | _ => none }
def StyleNothingWrongFalsely : Prop := styleNothingRow.holds Tryd.pinned (OpenSpec.ofChange styleNothingWrong)

/-- 'wainscotlaw17.StyleInherits': WHATEVER THE INPUT: true; the input reads as it did. -/
def styleInheritsSpec : ChangeSpec := { name := "styleInherits", fn := fun _ => fun
  | [d1, d2, d3] => { results := [.lit (.bool true)], args := [d1, d2, d3] }
  | _ => none }
def styleInheritsRow : OpenClaim := { program := "ytfiidocojooghaadoor", sum := "784ed18fba8f3e27ff95c8a7afe53ced939e7e259d6e7ec18daacacf9487560b", func := "wainscot/wainscotlaw17.StyleInherits", spec := "styleInherits", inPlace := ["internal/bytealg.CountString", "internal/bytealg.IndexByteString", "internal/bytealg.IndexString"], unfollowed := true, recurses := true, named := ["unicode/utf8.first", "unicode/utf8.acceptRanges", "internal/bytealg.MaxLen"], apart := false, laid := [("unicode/utf8.acceptRanges", laid_unicode_utf8_acceptRanges), ("unicode/utf8.first", laid_unicode_utf8_first)] }
def StyleInheritsSaid : Prop := styleInheritsRow.holds Tryd.pinned (OpenSpec.ofChange styleInheritsSpec)

/-- ITS FALSE NEIGHBOUR: 'it returns false'. Refute it at one input. -/
def styleInheritsWrong : ChangeSpec := { name := "styleInherits", fn := fun _ => fun
  | [d1, d2, d3] => { results := [.lit (.bool false)], args := [d1, d2, d3] }
  | _ => none }
def StyleInheritsWrongFalsely : Prop := styleInheritsRow.holds Tryd.pinned (OpenSpec.ofChange styleInheritsWrong)

/-- 'wainscotlaw17.StyleBases': WHATEVER THE INPUT: true; the input reads as it did. -/
def styleBasesSpec : ChangeSpec := { name := "styleBases", fn := fun _ => fun
  | [d1, d2, d3, d4, d5, d6] => { results := [.lit (.bool true)], args := [d1, d2, d3, d4, d5, d6] }
  | _ => none }
def styleBasesRow : OpenClaim := { program := "ytfiidocojooghaadoor", sum := "784ed18fba8f3e27ff95c8a7afe53ced939e7e259d6e7ec18daacacf9487560b", func := "wainscot/wainscotlaw17.StyleBases", spec := "styleBases", inPlace := ["internal/bytealg.CountString", "internal/bytealg.IndexByteString", "internal/bytealg.IndexString"], unfollowed := true, recurses := true, named := ["unicode/utf8.first", "unicode/utf8.acceptRanges", "internal/bytealg.MaxLen"], apart := false, laid := [("unicode/utf8.acceptRanges", laid_unicode_utf8_acceptRanges), ("unicode/utf8.first", laid_unicode_utf8_first)] }
def StyleBasesSaid : Prop := styleBasesRow.holds Tryd.pinned (OpenSpec.ofChange styleBasesSpec)

/-- ITS FALSE NEIGHBOUR: 'it returns false'. Refute it at one input. -/
def styleBasesWrong : ChangeSpec := { name := "styleBases", fn := fun _ => fun
  | [d1, d2, d3, d4, d5, d6] => { results := [.lit (.bool false)], args := [d1, d2, d3, d4, d5, d6] }
  | _ => none }
def StyleBasesWrongFalsely : Prop := styleBasesRow.holds Tryd.pinned (OpenSpec.ofChange styleBasesWrong)

/-- 'wainscotlaw17.StyleApart': WHATEVER THE INPUT: true; the input reads as it did. -/
def styleApartSpec : ChangeSpec := { name := "styleApart", fn := fun _ => fun
  | [d1, d2, d3, d4, d5] => { results := [.lit (.bool true)], args := [d1, d2, d3, d4, d5] }
  | _ => none }
def styleApartRow : OpenClaim := { program := "ytfiidocojooghaadoor", sum := "784ed18fba8f3e27ff95c8a7afe53ced939e7e259d6e7ec18daacacf9487560b", func := "wainscot/wainscotlaw17.StyleApart", spec := "styleApart", inPlace := ["internal/bytealg.CountString", "internal/bytealg.IndexByteString", "internal/bytealg.IndexString"], unfollowed := true, recurses := true, named := ["unicode/utf8.first", "unicode/utf8.acceptRanges", "internal/bytealg.MaxLen"], apart := false, laid := [("unicode/utf8.acceptRanges", laid_unicode_utf8_acceptRanges), ("unicode/utf8.first", laid_unicode_utf8_first)] }
def StyleApartSaid : Prop := styleApartRow.holds Tryd.pinned (OpenSpec.ofChange styleApartSpec)

/-- ITS FALSE NEIGHBOUR: 'it returns false'. Refute it at one input. -/
def styleApartWrong : ChangeSpec := { name := "styleApart", fn := fun _ => fun
  | [d1, d2, d3, d4, d5] => { results := [.lit (.bool false)], args := [d1, d2, d3, d4, d5] }
  | _ => none }
def StyleApartWrongFalsely : Prop := styleApartRow.holds Tryd.pinned (OpenSpec.ofChange styleApartWrong)

/-- 'wainscotlaw17.StyleWords': WHATEVER THE INPUT: true; the input reads as it did. -/
def styleWordsSpec : ChangeSpec := { name := "styleWords", fn := fun _ => fun
  | [d1, d2, d3, d4, d5] => { results := [.lit (.bool true)], args := [d1, d2, d3, d4, d5] }
  | _ => none }
def styleWordsRow : OpenClaim := { program := "ytfiidocojooghaadoor", sum := "784ed18fba8f3e27ff95c8a7afe53ced939e7e259d6e7ec18daacacf9487560b", func := "wainscot/wainscotlaw17.StyleWords", spec := "styleWords", inPlace := ["internal/bytealg.CountString", "internal/bytealg.IndexByteString", "internal/bytealg.IndexString"], unfollowed := true, recurses := true, named := ["unicode/utf8.first", "unicode/utf8.acceptRanges", "internal/bytealg.MaxLen"], apart := false, laid := [("unicode/utf8.acceptRanges", laid_unicode_utf8_acceptRanges), ("unicode/utf8.first", laid_unicode_utf8_first)] }
def StyleWordsSaid : Prop := styleWordsRow.holds Tryd.pinned (OpenSpec.ofChange styleWordsSpec)

/-- ITS FALSE NEIGHBOUR: 'it returns false'. Refute it at one input. -/
def styleWordsWrong : ChangeSpec := { name := "styleWords", fn := fun _ => fun
  | [d1, d2, d3, d4, d5] => { results := [.lit (.bool false)], args := [d1, d2, d3, d4, d5] }
  | _ => none }
def StyleWordsWrongFalsely : Prop := styleWordsRow.holds Tryd.pinned (OpenSpec.ofChange styleWordsWrong)

/- THE SECOND FORM. 'bulk': how many values and letters a reading holds, each counted each time it is reached (what is shared counts as often as it is met; a slice's spare places count too). A statement '..UptoSaid' is the law's where the arguments, and the package variables that the reading takes, are together of bulk at most 1048576: NARROWER than '..Said'. Prove '..Said' where nothing that the law and all that it calls make is longer than what came in: it says more and counts as full. Else prove '..UptoSaid'. A law counts once. -/
mutual
def uptoBulk {H : Type} : DataW H → Nat
  | .lit (.string bytes) => bytes.length + 1
  | .lit _ => 1
  | .nil => 1
  | .ptr d => uptoBulk d + 1
  | .slice elems spare => uptoBulkAll elems + uptoBulkAll spare + 1
  | .agg parts => uptoBulkAll parts + 1
  | .iface _ d => uptoBulk d + 1
  | .map entries => uptoBulkEntries entries + 1
  | .held _ => 1
def uptoBulkAll {H : Type} : List (DataW H) → Nat
  | [] => 0
  | d :: r => uptoBulk d + uptoBulkAll r
def uptoBulkEntries {H : Type} : List (Lit × DataW H) → Nat
  | [] => 0
  | x :: r => uptoBulkEntry x + uptoBulkEntries r
def uptoBulkEntry {H : Type} : Lit × DataW H → Nat
  | (.string bytes, d) => bytes.length + uptoBulk d + 1
  | (_, d) => uptoBulk d + 1
 end
def uptoSmall : (H : Type) → List (DataW H) → Bool := fun _ ds => decide (uptoBulkAll ds ≤ 1048576)
def OpenSpec.upto (s : _root_.Go.ChangeSpec) : _root_.Go.OpenSpec := { _root_.Go.OpenSpec.ofChange s with cond := some uptoSmall }

/-- 'wainscotlaw17.StyleNothing', WHERE WHAT IT READS IS OF BULK AT MOST 1048576: true; the input reads as it did. -/
def styleNothingUptoRow : OpenClaim := { program := "ytfiidocojooghaadoor", sum := "784ed18fba8f3e27ff95c8a7afe53ced939e7e259d6e7ec18daacacf9487560b", func := "wainscot/wainscotlaw17.StyleNothing", spec := "styleNothing", inPlace := ["internal/bytealg.CountString", "internal/bytealg.IndexByteString", "internal/bytealg.IndexString"], unfollowed := true, recurses := true, named := ["unicode/utf8.first", "unicode/utf8.acceptRanges", "internal/bytealg.MaxLen"], apart := false, laid := [("unicode/utf8.acceptRanges", laid_unicode_utf8_acceptRanges), ("unicode/utf8.first", laid_unicode_utf8_first)], narrowed := true }
def StyleNothingUptoSaid : Prop := styleNothingUptoRow.holds Tryd.pinned (OpenSpec.upto styleNothingSpec)

/-- 'wainscotlaw17.StyleInherits', WHERE WHAT IT READS IS OF BULK AT MOST 1048576: true; the input reads as it did. -/
def styleInheritsUptoRow : OpenClaim := { program := "ytfiidocojooghaadoor", sum := "784ed18fba8f3e27ff95c8a7afe53ced939e7e259d6e7ec18daacacf9487560b", func := "wainscot/wainscotlaw17.StyleInherits", spec := "styleInherits", inPlace := ["internal/bytealg.CountString", "internal/bytealg.IndexByteString", "internal/bytealg.IndexString"], unfollowed := true, recurses := true, named := ["unicode/utf8.first", "unicode/utf8.acceptRanges", "internal/bytealg.MaxLen"], apart := false, laid := [("unicode/utf8.acceptRanges", laid_unicode_utf8_acceptRanges), ("unicode/utf8.first", laid_unicode_utf8_first)], narrowed := true }
def StyleInheritsUptoSaid : Prop := styleInheritsUptoRow.holds Tryd.pinned (OpenSpec.upto styleInheritsSpec)

/-- 'wainscotlaw17.StyleBases', WHERE WHAT IT READS IS OF BULK AT MOST 1048576: true; the input reads as it did. -/
def styleBasesUptoRow : OpenClaim := { program := "ytfiidocojooghaadoor", sum := "784ed18fba8f3e27ff95c8a7afe53ced939e7e259d6e7ec18daacacf9487560b", func := "wainscot/wainscotlaw17.StyleBases", spec := "styleBases", inPlace := ["internal/bytealg.CountString", "internal/bytealg.IndexByteString", "internal/bytealg.IndexString"], unfollowed := true, recurses := true, named := ["unicode/utf8.first", "unicode/utf8.acceptRanges", "internal/bytealg.MaxLen"], apart := false, laid := [("unicode/utf8.acceptRanges", laid_unicode_utf8_acceptRanges), ("unicode/utf8.first", laid_unicode_utf8_first)], narrowed := true }
def StyleBasesUptoSaid : Prop := styleBasesUptoRow.holds Tryd.pinned (OpenSpec.upto styleBasesSpec)

/-- 'wainscotlaw17.StyleApart', WHERE WHAT IT READS IS OF BULK AT MOST 1048576: true; the input reads as it did. -/
def styleApartUptoRow : OpenClaim := { program := "ytfiidocojooghaadoor", sum := "784ed18fba8f3e27ff95c8a7afe53ced939e7e259d6e7ec18daacacf9487560b", func := "wainscot/wainscotlaw17.StyleApart", spec := "styleApart", inPlace := ["internal/bytealg.CountString", "internal/bytealg.IndexByteString", "internal/bytealg.IndexString"], unfollowed := true, recurses := true, named := ["unicode/utf8.first", "unicode/utf8.acceptRanges", "internal/bytealg.MaxLen"], apart := false, laid := [("unicode/utf8.acceptRanges", laid_unicode_utf8_acceptRanges), ("unicode/utf8.first", laid_unicode_utf8_first)], narrowed := true }
def StyleApartUptoSaid : Prop := styleApartUptoRow.holds Tryd.pinned (OpenSpec.upto styleApartSpec)

/-- 'wainscotlaw17.StyleWords', WHERE WHAT IT READS IS OF BULK AT MOST 1048576: true; the input reads as it did. -/
def styleWordsUptoRow : OpenClaim := { program := "ytfiidocojooghaadoor", sum := "784ed18fba8f3e27ff95c8a7afe53ced939e7e259d6e7ec18daacacf9487560b", func := "wainscot/wainscotlaw17.StyleWords", spec := "styleWords", inPlace := ["internal/bytealg.CountString", "internal/bytealg.IndexByteString", "internal/bytealg.IndexString"], unfollowed := true, recurses := true, named := ["unicode/utf8.first", "unicode/utf8.acceptRanges", "internal/bytealg.MaxLen"], apart := false, laid := [("unicode/utf8.acceptRanges", laid_unicode_utf8_acceptRanges), ("unicode/utf8.first", laid_unicode_utf8_first)], narrowed := true }
def StyleWordsUptoSaid : Prop := styleWordsUptoRow.holds Tryd.pinned (OpenSpec.upto styleWordsSpec)

end Rows
end Go.Proofs.YtfiidocojooghaaDoor
