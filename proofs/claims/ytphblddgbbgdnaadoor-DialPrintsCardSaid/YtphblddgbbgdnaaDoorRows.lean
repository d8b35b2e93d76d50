/-
  NARROWER THAN 'FOR EVERY INPUT', by the rows' own cells (each row's printed sentence says how): DialTexts: laid · DialReads: laid · DialQueries: laid · DialTranslates: laid · DialSettles: laid · DialPrints: laid · DialReturns: laid.
  DERIVED. THE GIVEN ROWS OF THIS SEAT. 7 by the template 'for every input the law returns true; each argument reads behind the call as it read before'; 0 by the template 'total and deterministic' (their statements: YtphblddgbbgdnaaDoorTotals.lean).
  GIVEN WITH THE SEED: the statements are not yours to turn. If you find one false, say at which input.
  Laid BY PROGRAM, IN A SANDBOX (cutbox-rows.mjs): the forced cells as the released guide's own fill.sh prints them over the translation 8c6baba2479fc33f… (all of the seat's roots in one cut). By AI agents, Wed Nov 11 2026. No macro, syntax, notation, axiom, sorry.
-/
import Derived.Test.YtphblddgbbgdnaaDoorChecked
import GoSem.PinnedTables
import GoSem.Claim
import GoSem.ClaimJoined
import GoSem.ClaimMapViews
import Derived.JoinedTies
import Derived.KernelRfl
namespace Go.Proofs.YtphblddgbbgdnaaDoor
/- THE CELL 'sum', in the pinned program and in every row, IS THE sha256 OF THE DUMP (.gsa) THAT YtphblddgbbgdnaaDoorProg.lean LOADS. Nothing in Lean hashes anything: it is a label: what it is worth is what the hold of that sum in a sandbox is worth. -/
noncomputable def Tryd.pinned : Pinned := { name := "ytphblddgbbgdnaadoor", sum := "8c6baba2479fc33fa9a749cb583214d511af3238e1540200c11cd5ffdfcc123d", checked := Tryd.checked }
namespace Rows
def none {H : Type} : Left H := { results := [], args := [] }

/- WHAT THE LISTED PACKAGE-LEVEL VARIABLES READ AS WHEN THE CALL BEGINS. Each datum BY PROGRAM (the guide's laid-datum.mjs) off the statement by which the dump's own 'gosem.cut.vars' lays the variable. In a bare row this is a premise. The card (YtphblddgbbgdnaaDoorCards.lean) ties it to the program's text. -/
def laid_unicode_utf8_acceptRanges {H : Type} : DataW H := .agg [.agg [.lit (.int .u8 128), .lit (.int .u8 191)], .agg [.lit (.int .u8 160), .lit (.int .u8 191)], .agg [.lit (.int .u8 128), .lit (.int .u8 159)], .agg [.lit (.int .u8 144), .lit (.int .u8 191)], .agg [.lit (.int .u8 128), .lit (.int .u8 143)], .agg [.lit (.int .u8 0), .lit (.int .u8 0)], .agg [.lit (.int .u8 0), .lit (.int .u8 0)], .agg [.lit (.int .u8 0), .lit (.int .u8 0)], .agg [.lit (.int .u8 0), .lit (.int .u8 0)], .agg [.lit (.int .u8 0), .lit (.int .u8 0)], .agg [.lit (.int .u8 0), .lit (.int .u8 0)], .agg [.lit (.int .u8 0), .lit (.int .u8 0)], .agg [.lit (.int .u8 0), .lit (.int .u8 0)], .agg [.lit (.int .u8 0), .lit (.int .u8 0)], .agg [.lit (.int .u8 0), .lit (.int .u8 0)], .agg [.lit (.int .u8 0), .lit (.int .u8 0)]]
/-- One of Go's own tables, pinned by name: the form's constant. -/
def laid_unicode_utf8_first : DataW Unit := Go.Pinned.utf8First

/-- 'filespacelaw27.DialTexts': WHATEVER THE INPUT: true; the input reads as it did. -/
def dialTextsSpec : ChangeSpec := { name := "dialTexts", fn := fun _ => fun
  | [d1, d2] => { results := [.lit (.bool true)], args := [d1, d2] }
  | _ => none }
def dialTextsRow : OpenClaim := { program := "ytphblddgbbgdnaadoor", sum := "8c6baba2479fc33fa9a749cb583214d511af3238e1540200c11cd5ffdfcc123d", func := "filespace/filespacelaw27.DialTexts", spec := "dialTexts", inPlace := ["internal/bytealg.CountString", "internal/bytealg.IndexByteString", "internal/bytealg.IndexString", "internal/abi.NoEscape"], unfollowed := true, recurses := true, named := ["unicode/utf8.first", "unicode/utf8.acceptRanges", "internal/bytealg.MaxLen"], apart := false, laid := [("unicode/utf8.acceptRanges", laid_unicode_utf8_acceptRanges), ("unicode/utf8.first", laid_unicode_utf8_first)] }
def DialTextsSaid : Prop := dialTextsRow.holds Tryd.pinned (OpenSpec.ofChange dialTextsSpec)

/-- ITS FALSE NEIGHBOUR: 'it returns false'. Refute it at one input. -/
def dialTextsWrong : ChangeSpec := { name := "dialTexts", fn := fun _ => fun
  | [d1, d2] => { results := [.lit (.bool false)], args := [d1, d2] }
  | _ => none }
def DialTextsWrongFalsely : Prop := dialTextsRow.holds Tryd.pinned (OpenSpec.ofChange dialTextsWrong)

/-- 'filespacelaw27.DialReads': WHATEVER THE INPUT: true; the input reads as it did. -/
def dialReadsSpec : ChangeSpec := { name := "dialReads", fn := fun _ => fun
  | [d] => { results := [.lit (.bool true)], args := [d] }
  | _ => none }
def dialReadsRow : OpenClaim := { program := "ytphblddgbbgdnaadoor", sum := "8c6baba2479fc33fa9a749cb583214d511af3238e1540200c11cd5ffdfcc123d", func := "filespace/filespacelaw27.DialReads", spec := "dialReads", inPlace := ["internal/bytealg.CountString", "internal/bytealg.IndexByteString", "internal/bytealg.IndexString", "internal/abi.NoEscape"], unfollowed := true, recurses := true, named := ["unicode/utf8.first", "unicode/utf8.acceptRanges", "internal/bytealg.MaxLen"], apart := false, laid := [("unicode/utf8.acceptRanges", laid_unicode_utf8_acceptRanges), ("unicode/utf8.first", laid_unicode_utf8_first)] }
def DialReadsSaid : Prop := dialReadsRow.holds Tryd.pinned (OpenSpec.ofChange dialReadsSpec)

/-- ITS FALSE NEIGHBOUR: 'it returns false'. Refute it at one input. -/
def dialReadsWrong : ChangeSpec := { name := "dialReads", fn := fun _ => fun
  | [d] => { results := [.lit (.bool false)], args := [d] }
  | _ => none }
def DialReadsWrongFalsely : Prop := dialReadsRow.holds Tryd.pinned (OpenSpec.ofChange dialReadsWrong)

/-- 'filespacelaw27.DialQueries': WHATEVER THE INPUT: true; the input reads as it did. -/
def dialQueriesSpec : ChangeSpec := { name := "dialQueries", fn := fun _ => fun
  | [d1, d2, d3] => { results := [.lit (.bool true)], args := [d1, d2, d3] }
  | _ => none }
def dialQueriesRow : OpenClaim := { program := "ytphblddgbbgdnaadoor", sum := "8c6baba2479fc33fa9a749cb583214d511af3238e1540200c11cd5ffdfcc123d", func := "filespace/filespacelaw27.DialQueries", spec := "dialQueries", inPlace := ["internal/bytealg.CountString", "internal/bytealg.IndexByteString", "internal/bytealg.IndexString", "internal/abi.NoEscape"], unfollowed := true, recurses := true, named := ["unicode/utf8.first", "unicode/utf8.acceptRanges", "internal/bytealg.MaxLen"], apart := false, laid := [("unicode/utf8.acceptRanges", laid_unicode_utf8_acceptRanges), ("unicode/utf8.first", laid_unicode_utf8_first)] }
def DialQueriesSaid : Prop := dialQueriesRow.holds Tryd.pinned (OpenSpec.ofChange dialQueriesSpec)

/-- ITS FALSE NEIGHBOUR: 'it returns false'. Refute it at one input. -/
def dialQueriesWrong : ChangeSpec := { name := "dialQueries", fn := fun _ => fun
  | [d1, d2, d3] => { results := [.lit (.bool false)], args := [d1, d2, d3] }
  | _ => none }
def DialQueriesWrongFalsely : Prop := dialQueriesRow.holds Tryd.pinned (OpenSpec.ofChange dialQueriesWrong)

/-- 'filespacelaw27.DialTranslates': WHATEVER THE INPUT: true; the input reads as it did. -/
def dialTranslatesSpec : ChangeSpec := { name := "dialTranslates", fn := fun _ => fun
  | [d1, d2, d3] => { results := [.lit (.bool true)], args := [d1, d2, d3] }
  | _ => none }
def dialTranslatesRow : OpenClaim := { program := "ytphblddgbbgdnaadoor", sum := "8c6baba2479fc33fa9a749cb583214d511af3238e1540200c11cd5ffdfcc123d", func := "filespace/filespacelaw27.DialTranslates", spec := "dialTranslates", inPlace := ["internal/bytealg.CountString", "internal/bytealg.IndexByteString", "internal/bytealg.IndexString", "internal/abi.NoEscape"], unfollowed := true, recurses := true, named := ["unicode/utf8.first", "unicode/utf8.acceptRanges", "internal/bytealg.MaxLen"], apart := false, laid := [("unicode/utf8.acceptRanges", laid_unicode_utf8_acceptRanges), ("unicode/utf8.first", laid_unicode_utf8_first)] }
def DialTranslatesSaid : Prop := dialTranslatesRow.holds Tryd.pinned (OpenSpec.ofChange dialTranslatesSpec)

/-- ITS FALSE NEIGHBOUR: 'it returns false'. Refute it at one input. -/
def dialTranslatesWrong : ChangeSpec := { name := "dialTranslates", fn := fun _ => fun
  | [d1, d2, d3] => { results := [.lit (.bool false)], args := [d1, d2, d3] }
  | _ => none }
def DialTranslatesWrongFalsely : Prop := dialTranslatesRow.holds Tryd.pinned (OpenSpec.ofChange dialTranslatesWrong)

/-- 'filespacelaw27.DialSettles': WHATEVER THE INPUT: true; the input reads as it did. -/
def dialSettlesSpec : ChangeSpec := { name := "dialSettles", fn := fun _ => fun
  | [d1, d2, d3] => { results := [.lit (.bool true)], args := [d1, d2, d3] }
  | _ => none }
def dialSettlesRow : OpenClaim := { program := "ytphblddgbbgdnaadoor", sum := "8c6baba2479fc33fa9a749cb583214d511af3238e1540200c11cd5ffdfcc123d", func := "filespace/filespacelaw27.DialSettles", spec := "dialSettles", inPlace := ["internal/bytealg.CountString", "internal/bytealg.IndexByteString", "internal/bytealg.IndexString", "internal/abi.NoEscape"], unfollowed := true, recurses := true, named := ["unicode/utf8.first", "unicode/utf8.acceptRanges", "internal/bytealg.MaxLen"], apart := false, laid := [("unicode/utf8.acceptRanges", laid_unicode_utf8_acceptRanges), ("unicode/utf8.first", laid_unicode_utf8_first)] }
def DialSettlesSaid : Prop := dialSettlesRow.holds Tryd.pinned (OpenSpec.ofChange dialSettlesSpec)

/-- ITS FALSE NEIGHBOUR: 'it returns false'. Refute it at one input. -/
def dialSettlesWrong : ChangeSpec := { name := "dialSettles", fn := fun _ => fun
  | [d1, d2, d3] => { results := [.lit (.bool false)], args := [d1, d2, d3] }
  | _ => none }
def DialSettlesWrongFalsely : Prop := dialSettlesRow.holds Tryd.pinned (OpenSpec.ofChange dialSettlesWrong)

/-- 'filespacelaw27.DialPrints': WHATEVER THE INPUT: true; the input reads as it did. -/
def dialPrintsSpec : ChangeSpec := { name := "dialPrints", fn := fun _ => fun
  | [d] => { results := [.lit (.bool true)], args := [d] }
  | _ => none }
def dialPrintsRow : OpenClaim := { program := "ytphblddgbbgdnaadoor", sum := "8c6baba2479fc33fa9a749cb583214d511af3238e1540200c11cd5ffdfcc123d", func := "filespace/filespacelaw27.DialPrints", spec := "dialPrints", inPlace := ["internal/bytealg.CountString", "internal/bytealg.IndexByteString", "internal/bytealg.IndexString", "internal/abi.NoEscape", "internal/bytealg.MakeNoZero"], unfollowed := true, recurses := true, named := ["unicode/utf8.first", "unicode/utf8.acceptRanges", "internal/bytealg.MaxLen"], apart := false, laid := [("unicode/utf8.acceptRanges", laid_unicode_utf8_acceptRanges), ("unicode/utf8.first", laid_unicode_utf8_first)] }
def DialPrintsSaid : Prop := dialPrintsRow.holds Tryd.pinned (OpenSpec.ofChange dialPrintsSpec)

/-- ITS FALSE NEIGHBOUR: 'it returns false'. Refute it at one input. -/
def dialPrintsWrong : ChangeSpec := { name := "dialPrints", fn := fun _ => fun
  | [d] => { results := [.lit (.bool false)], args := [d] }
  | _ => none }
def DialPrintsWrongFalsely : Prop := dialPrintsRow.holds Tryd.pinned (OpenSpec.ofChange dialPrintsWrong)

/-- 'filespacelaw27.DialReturns': WHATEVER THE INPUT: true; the input reads as it did. -/
def dialReturnsSpec : ChangeSpec := { name := "dialReturns", fn := fun _ => fun
  | [d1, d2] => { results := [.lit (.bool true)], args := [d1, d2] }
  | _ => none }
def dialReturnsRow : OpenClaim := { program := "ytphblddgbbgdnaadoor", sum := "8c6baba2479fc33fa9a749cb583214d511af3238e1540200c11cd5ffdfcc123d", func := "filespace/filespacelaw27.DialReturns", spec := "dialReturns", inPlace := ["internal/bytealg.CountString", "internal/bytealg.IndexByteString", "internal/bytealg.IndexString", "internal/abi.NoEscape", "internal/bytealg.MakeNoZero"], unfollowed := true, recurses := true, named := ["unicode/utf8.first", "unicode/utf8.acceptRanges", "internal/bytealg.MaxLen"], apart := false, laid := [("unicode/utf8.acceptRanges", laid_unicode_utf8_acceptRanges), ("unicode/utf8.first", laid_unicode_utf8_first)] }
def DialReturnsSaid : Prop := dialReturnsRow.holds Tryd.pinned (OpenSpec.ofChange dialReturnsSpec)

/-- ITS FALSE NEIGHBOUR: 'it returns false'. Refute it at one input. -/
def dialReturnsWrong : ChangeSpec := { name := "dialReturns", fn := fun _ => fun
  | [d1, d2] => { results := [.lit (.bool false)], args := [d1, d2] }
  | _ => none }
def DialReturnsWrongFalsely : Prop := dialReturnsRow.holds Tryd.pinned (OpenSpec.ofChange dialReturnsWrong)

/- THE SECOND FORM. 'bulk': how many values and letters a reading holds, each counted each time it is reached (what is shared counts as often as it is met; a slice's spare places count too). A statement '..UptoSaid' is the law's where the arguments, and the package variables that the reading takes, are together of bulk at most 1048576: NARROWER than '..Said'. Prove '..Said' where nothing that the law and all that it calls make is longer than what came in: it says more and counts as full. Else prove '..UptoSaid'. A law counts once. -/
mutual
def uptoBulk {H : Type} : DataW H → Nat
  | .lit (.string bytes) => bytes.length + 1
  | .lit _ => 1
  | .nil => 1
  | .ptr d => uptoBulk d + 1
  | .slice elems spare => uptoBulkAll elems + uptoBulkAll spare + 1
  | .agg parts => uptoBulkAll parts + 1
  | .iface _ d => uptoBulk d + 1
  | .map entries => uptoBulkEntries entries + 1
  | .held _ => 1
def uptoBulkAll {H : Type} : List (DataW H) → Nat
  | [] => 0
  | d :: r => uptoBulk d + uptoBulkAll r
def uptoBulkEntries {H : Type} : List (Lit × DataW H) → Nat
  | [] => 0
  | x :: r => uptoBulkEntry x + uptoBulkEntries r
def uptoBulkEntry {H : Type} : Lit × DataW H → Nat
  | (.string bytes, d) => bytes.length + uptoBulk d + 1
  | (_, d) => uptoBulk d + 1
 end
def uptoSmall : (H : Type) → List (DataW H) → Bool := fun _ ds => decide (uptoBulkAll ds ≤ 1048576)
def OpenSpec.upto (s : _root_.Go.ChangeSpec) : _root_.Go.OpenSpec := { _root_.Go.OpenSpec.ofChange s with cond := some uptoSmall }

/-- 'filespacelaw27.DialTexts', WHERE WHAT IT READS IS OF BULK AT MOST 1048576: true; the input reads as it did. -/
def dialTextsUptoRow : OpenClaim := { program := "ytphblddgbbgdnaadoor", sum := "8c6baba2479fc33fa9a749cb583214d511af3238e1540200c11cd5ffdfcc123d", func := "filespace/filespacelaw27.DialTexts", spec := "dialTexts", inPlace := ["internal/bytealg.CountString", "internal/bytealg.IndexByteString", "internal/bytealg.IndexString", "internal/abi.NoEscape"], unfollowed := true, recurses := true, named := ["unicode/utf8.first", "unicode/utf8.acceptRanges", "internal/bytealg.MaxLen"], apart := false, laid := [("unicode/utf8.acceptRanges", laid_unicode_utf8_acceptRanges), ("unicode/utf8.first", laid_unicode_utf8_first)], narrowed := true }
def DialTextsUptoSaid : Prop := dialTextsUptoRow.holds Tryd.pinned (OpenSpec.upto dialTextsSpec)

/-- 'filespacelaw27.DialReads', WHERE WHAT IT READS IS OF BULK AT MOST 1048576: true; the input reads as it did. -/
def dialReadsUptoRow : OpenClaim := { program := "ytphblddgbbgdnaadoor", sum := "8c6baba2479fc33fa9a749cb583214d511af3238e1540200c11cd5ffdfcc123d", func := "filespace/filespacelaw27.DialReads", spec := "dialReads", inPlace := ["internal/bytealg.CountString", "internal/bytealg.IndexByteString", "internal/bytealg.IndexString", "internal/abi.NoEscape"], unfollowed := true, recurses := true, named := ["unicode/utf8.first", "unicode/utf8.acceptRanges", "internal/bytealg.MaxLen"], apart := false, laid := [("unicode/utf8.acceptRanges", laid_unicode_utf8_acceptRanges), ("unicode/utf8.first", laid_unicode_utf8_first)], narrowed := true }
def DialReadsUptoSaid : Prop := dialReadsUptoRow.holds Tryd.pinned (OpenSpec.upto dialReadsSpec)

/-- 'filespacelaw27.DialQueries', WHERE WHAT IT READS IS OF BULK AT MOST 1048576: true; the input reads as it did. -/
def dialQueriesUptoRow : OpenClaim := { program := "ytphblddgbbgdnaadoor", sum := "8c6baba2479fc33fa9a749cb583214d511af3238e1540200c11cd5ffdfcc123d", func := "filespace/filespacelaw27.DialQueries", spec := "dialQueries", inPlace := ["internal/bytealg.CountString", "internal/bytealg.IndexByteString", "internal/bytealg.IndexString", "internal/abi.NoEscape"], unfollowed := true, recurses := true, named := ["unicode/utf8.first", "unicode/utf8.acceptRanges", "internal/bytealg.MaxLen"], apart := false, laid := [("unicode/utf8.acceptRanges", laid_unicode_utf8_acceptRanges), ("unicode/utf8.first", laid_unicode_utf8_first)], narrowed := true }
def DialQueriesUptoSaid : Prop := dialQueriesUptoRow.holds Tryd.pinned (OpenSpec.upto dialQueriesSpec)

/-- 'filespacelaw27.DialTranslates', WHERE WHAT IT READS IS OF BULK AT MOST 1048576: true; the input reads as it did. -/
def dialTranslatesUptoRow : OpenClaim := { program := "ytphblddgbbgdnaadoor", sum := "8c6baba2479fc33fa9a749cb583214d511af3238e1540200c11cd5ffdfcc123d", func := "filespace/filespacelaw27.DialTranslates", spec := "dialTranslates", inPlace := ["internal/bytealg.CountString", "internal/bytealg.IndexByteString", "internal/bytealg.IndexString", "internal/abi.NoEscape"], unfollowed := true, recurses := true, named := ["unicode/utf8.first", "unicode/utf8.acceptRanges", "internal/bytealg.MaxLen"], apart := false, laid := [("unicode/utf8.acceptRanges", laid_unicode_utf8_acceptRanges), ("unicode/utf8.first", laid_unicode_utf8_first)], narrowed := true }
def DialTranslatesUptoSaid : Prop := dialTranslatesUptoRow.holds Tryd.pinned (OpenSpec.upto dialTranslatesSpec)

/-- 'filespacelaw27.DialSettles', WHERE WHAT IT READS IS OF BULK AT MOST 1048576: true; the input reads as it did. -/
def dialSettlesUptoRow : OpenClaim := { program := "ytphblddgbbgdnaadoor", sum := "8c6baba2479fc33fa9a749cb583214d511af3238e1540200c11cd5ffdfcc123d", func := "filespace/filespacelaw27.DialSettles", spec := "dialSettles", inPlace := ["internal/bytealg.CountString", "internal/bytealg.IndexByteString", "internal/bytealg.IndexString", "internal/abi.NoEscape"], unfollowed := true, recurses := true, named := ["unicode/utf8.first", "unicode/utf8.acceptRanges", "internal/bytealg.MaxLen"], apart := false, laid := [("unicode/utf8.acceptRanges", laid_unicode_utf8_acceptRanges), ("unicode/utf8.first", laid_unicode_utf8_first)], narrowed := true }
def DialSettlesUptoSaid : Prop := dialSettlesUptoRow.holds Tryd.pinned (OpenSpec.upto dialSettlesSpec)

/-- 'filespacelaw27.DialPrints', WHERE WHAT IT READS IS OF BULK AT MOST 1048576: true; the input reads as it did. -/
def dialPrintsUptoRow : OpenClaim := { program := "ytphblddgbbgdnaadoor", sum := "8c6baba2479fc33fa9a749cb583214d511af3238e1540200c11cd5ffdfcc123d", func := "filespace/filespacelaw27.DialPrints", spec := "dialPrints", inPlace := ["internal/bytealg.CountString", "internal/bytealg.IndexByteString", "internal/bytealg.IndexString", "internal/abi.NoEscape", "internal/bytealg.MakeNoZero"], unfollowed := true, recurses := true, named := ["unicode/utf8.first", "unicode/utf8.acceptRanges", "internal/bytealg.MaxLen"], apart := false, laid := [("unicode/utf8.acceptRanges", laid_unicode_utf8_acceptRanges), ("unicode/utf8.first", laid_unicode_utf8_first)], narrowed := true }
def DialPrintsUptoSaid : Prop := dialPrintsUptoRow.holds Tryd.pinned (OpenSpec.upto dialPrintsSpec)

/-- 'filespacelaw27.DialReturns', WHERE WHAT IT READS IS OF BULK AT MOST 1048576: true; the input reads as it did. -/
def dialReturnsUptoRow : OpenClaim := { program := "ytphblddgbbgdnaadoor", sum := "8c6baba2479fc33fa9a749cb583214d511af3238e1540200c11cd5ffdfcc123d", func := "filespace/filespacelaw27.DialReturns", spec := "dialReturns", inPlace := ["internal/bytealg.CountString", "internal/bytealg.IndexByteString", "internal/bytealg.IndexString", "internal/abi.NoEscape", "internal/bytealg.MakeNoZero"], unfollowed := true, recurses := true, named := ["unicode/utf8.first", "unicode/utf8.acceptRanges", "internal/bytealg.MaxLen"], apart := false, laid := [("unicode/utf8.acceptRanges", laid_unicode_utf8_acceptRanges), ("unicode/utf8.first", laid_unicode_utf8_first)], narrowed := true }
def DialReturnsUptoSaid : Prop := dialReturnsUptoRow.holds Tryd.pinned (OpenSpec.upto dialReturnsSpec)

end Rows
end Go.Proofs.YtphblddgbbgdnaaDoor
