/-
  NARROWER THAN 'FOR EVERY INPUT', by the rows' own cells (each row's printed sentence says how): AttrChecks: laid · AttrPrints: laid · AttrParses: laid · AttrMatches: laid · AttrReturns: laid · AttrSelects: laid · AttrSets: laid · AttrFinds: laid.
  DERIVED. THE GIVEN ROWS OF THIS SEAT. 8 by the template 'for every input the law returns true; each argument reads behind the call as it read before'; 0 by the template 'total and deterministic' (their statements: YtjlbepebaegmeaaDoorTotals.lean).
  GIVEN WITH THE SEED: the statements are not yours to turn. If you find one false, say at which input.
  Laid BY PROGRAM, IN A SANDBOX (cutbox-rows.mjs): the forced cells as the released guide's own fill.sh prints them over the translation 89bc46ed404d41ab… (all of the seat's roots in one cut). By AI agents, Wed Nov 11 2026. No macro, syntax, notation, axiom, sorry.
-/
import Derived.Test.YtjlbepebaegmeaaDoorChecked
import GoSem.PinnedTables
import GoSem.Claim
import GoSem.ClaimJoined
import GoSem.ClaimMapViews
import Derived.JoinedTies
import Derived.KernelRfl
namespace Go.Proofs.YtjlbepebaegmeaaDoor
/- THE CELL 'sum', in the pinned program and in every row, IS THE sha256 OF THE DUMP (.gsa) THAT YtjlbepebaegmeaaDoorProg.lean LOADS. Nothing in Lean hashes anything: it is a label: what it is worth is what the hold of that sum in a sandbox is worth. -/
noncomputable def Tryd.pinned : Pinned := { name := "ytjlbepebaegmeaadoor", sum := "89bc46ed404d41ab904660d75c58792dd0209a0b289e19d569b0d14fba16716d", checked := Tryd.checked }
namespace Rows
def none {H : Type} : Left H := { results := [], args := [] }

/- WHAT THE LISTED PACKAGE-LEVEL VARIABLES READ AS WHEN THE CALL BEGINS. Each datum BY PROGRAM (the guide's laid-datum.mjs) off the statement by which the dump's own 'gosem.cut.vars' lays the variable. In a bare row this is a premise. The card (YtjlbepebaegmeaaDoorCards.lean) ties it to the program's text. -/
def laid_unicode_utf8_acceptRanges {H : Type} : DataW H := .agg [.agg [.lit (.int .u8 128), .lit (.int .u8 191)], .agg [.lit (.int .u8 160), .lit (.int .u8 191)], .agg [.lit (.int .u8 128), .lit (.int .u8 159)], .agg [.lit (.int .u8 144), .lit (.int .u8 191)], .agg [.lit (.int .u8 128), .lit (.int .u8 143)], .agg [.lit (.int .u8 0), .lit (.int .u8 0)], .agg [.lit (.int .u8 0), .lit (.int .u8 0)], .agg [.lit (.int .u8 0), .lit (.int .u8 0)], .agg [.lit (.int .u8 0), .lit (.int .u8 0)], .agg [.lit (.int .u8 0), .lit (.int .u8 0)], .agg [.lit (.int .u8 0), .lit (.int .u8 0)], .agg [.lit (.int .u8 0), .lit (.int .u8 0)], .agg [.lit (.int .u8 0), .lit (.int .u8 0)], .agg [.lit (.int .u8 0), .lit (.int .u8 0)], .agg [.lit (.int .u8 0), .lit (.int .u8 0)], .agg [.lit (.int .u8 0), .lit (.int .u8 0)]]
/-- One of Go's own tables, pinned by name: the form's constant. -/
def laid_unicode_utf8_first : DataW Unit := Go.Pinned.utf8First

/-- 'filespacelaw22.AttrChecks': WHATEVER THE INPUT: true; the input reads as it did. -/
def attrChecksSpec : ChangeSpec := { name := "attrChecks", fn := fun _ => fun
  | [d] => { results := [.lit (.bool true)], args := [d] }
  | _ => none }
def attrChecksRow : OpenClaim := { program := "ytjlbepebaegmeaadoor", sum := "89bc46ed404d41ab904660d75c58792dd0209a0b289e19d569b0d14fba16716d", func := "filespace/filespacelaw22.AttrChecks", spec := "attrChecks", inPlace := ["internal/bytealg.IndexByteString", "internal/abi.NoEscape", "internal/bytealg.IndexString", "internal/bytealg.CountString", "internal/bytealg.MakeNoZero"], unfollowed := true, recurses := true, named := ["internal/bytealg.MaxLen", "unicode/utf8.first", "unicode/utf8.acceptRanges"], apart := false, laid := [("unicode/utf8.acceptRanges", laid_unicode_utf8_acceptRanges), ("unicode/utf8.first", laid_unicode_utf8_first)] }
def AttrChecksSaid : Prop := attrChecksRow.holds Tryd.pinned (OpenSpec.ofChange attrChecksSpec)

/-- ITS FALSE NEIGHBOUR: 'it returns false'. Refute it at one input. -/
def attrChecksWrong : ChangeSpec := { name := "attrChecks", fn := fun _ => fun
  | [d] => { results := [.lit (.bool false)], args := [d] }
  | _ => none }
def AttrChecksWrongFalsely : Prop := attrChecksRow.holds Tryd.pinned (OpenSpec.ofChange attrChecksWrong)

/-- 'filespacelaw22.AttrPrints': WHATEVER THE INPUT: true; the input reads as it did. -/
def attrPrintsSpec : ChangeSpec := { name := "attrPrints", fn := fun _ => fun
  | [d] => { results := [.lit (.bool true)], args := [d] }
  | _ => none }
def attrPrintsRow : OpenClaim := { program := "ytjlbepebaegmeaadoor", sum := "89bc46ed404d41ab904660d75c58792dd0209a0b289e19d569b0d14fba16716d", func := "filespace/filespacelaw22.AttrPrints", spec := "attrPrints", inPlace := ["internal/bytealg.IndexByteString", "internal/abi.NoEscape", "internal/bytealg.IndexString", "internal/bytealg.CountString", "internal/bytealg.MakeNoZero"], unfollowed := true, recurses := true, named := ["internal/bytealg.MaxLen", "unicode/utf8.first", "unicode/utf8.acceptRanges"], apart := false, laid := [("unicode/utf8.acceptRanges", laid_unicode_utf8_acceptRanges), ("unicode/utf8.first", laid_unicode_utf8_first)] }
def AttrPrintsSaid : Prop := attrPrintsRow.holds Tryd.pinned (OpenSpec.ofChange attrPrintsSpec)

/-- ITS FALSE NEIGHBOUR: 'it returns false'. Refute it at one input. -/
def attrPrintsWrong : ChangeSpec := { name := "attrPrints", fn := fun _ => fun
  | [d] => { results := [.lit (.bool false)], args := [d] }
  | _ => none }
def AttrPrintsWrongFalsely : Prop := attrPrintsRow.holds Tryd.pinned (OpenSpec.ofChange attrPrintsWrong)

/-- 'filespacelaw22.AttrParses': WHATEVER THE INPUT: true; the input reads as it did. -/
def attrParsesSpec : ChangeSpec := { name := "attrParses", fn := fun _ => fun
  | [d] => { results := [.lit (.bool true)], args := [d] }
  | _ => none }
def attrParsesRow : OpenClaim := { program := "ytjlbepebaegmeaadoor", sum := "89bc46ed404d41ab904660d75c58792dd0209a0b289e19d569b0d14fba16716d", func := "filespace/filespacelaw22.AttrParses", spec := "attrParses", inPlace := ["internal/bytealg.IndexByteString", "internal/abi.NoEscape", "internal/bytealg.IndexString", "internal/bytealg.CountString", "internal/bytealg.MakeNoZero"], unfollowed := true, recurses := true, named := ["internal/bytealg.MaxLen", "unicode/utf8.first", "unicode/utf8.acceptRanges"], apart := false, laid := [("unicode/utf8.acceptRanges", laid_unicode_utf8_acceptRanges), ("unicode/utf8.first", laid_unicode_utf8_first)] }
def AttrParsesSaid : Prop := attrParsesRow.holds Tryd.pinned (OpenSpec.ofChange attrParsesSpec)

/-- ITS FALSE NEIGHBOUR: 'it returns false'. Refute it at one input. -/
def attrParsesWrong : ChangeSpec := { name := "attrParses", fn := fun _ => fun
  | [d] => { results := [.lit (.bool false)], args := [d] }
  | _ => none }
def AttrParsesWrongFalsely : Prop := attrParsesRow.holds Tryd.pinned (OpenSpec.ofChange attrParsesWrong)

/-- 'filespacelaw22.AttrMatches': WHATEVER THE INPUT: true; the input reads as it did. -/
def attrMatchesSpec : ChangeSpec := { name := "attrMatches", fn := fun _ => fun
  | [d1, d2] => { results := [.lit (.bool true)], args := [d1, d2] }
  | _ => none }
def attrMatchesRow : OpenClaim := { program := "ytjlbepebaegmeaadoor", sum := "89bc46ed404d41ab904660d75c58792dd0209a0b289e19d569b0d14fba16716d", func := "filespace/filespacelaw22.AttrMatches", spec := "attrMatches", inPlace := ["internal/bytealg.IndexByteString", "internal/abi.NoEscape", "internal/bytealg.IndexString", "internal/bytealg.CountString", "internal/bytealg.MakeNoZero"], unfollowed := true, recurses := true, named := ["internal/bytealg.MaxLen", "unicode/utf8.first", "unicode/utf8.acceptRanges"], apart := false, laid := [("unicode/utf8.acceptRanges", laid_unicode_utf8_acceptRanges), ("unicode/utf8.first", laid_unicode_utf8_first)] }
def AttrMatchesSaid : Prop := attrMatchesRow.holds Tryd.pinned (OpenSpec.ofChange attrMatchesSpec)

/-- ITS FALSE NEIGHBOUR: 'it returns false'. Refute it at one input. -/
def attrMatchesWrong : ChangeSpec := { name := "attrMatches", fn := fun _ => fun
  | [d1, d2] => { results := [.lit (.bool false)], args := [d1, d2] }
  | _ => none }
def AttrMatchesWrongFalsely : Prop := attrMatchesRow.holds Tryd.pinned (OpenSpec.ofChange attrMatchesWrong)

/-- 'filespacelaw22.AttrReturns': WHATEVER THE INPUT: true; the input reads as it did. -/
def attrReturnsSpec : ChangeSpec := { name := "attrReturns", fn := fun _ => fun
  | [d] => { results := [.lit (.bool true)], args := [d] }
  | _ => none }
def attrReturnsRow : OpenClaim := { program := "ytjlbepebaegmeaadoor", sum := "89bc46ed404d41ab904660d75c58792dd0209a0b289e19d569b0d14fba16716d", func := "filespace/filespacelaw22.AttrReturns", spec := "attrReturns", inPlace := ["internal/bytealg.IndexByteString", "internal/abi.NoEscape", "internal/bytealg.IndexString", "internal/bytealg.CountString", "internal/bytealg.MakeNoZero"], unfollowed := true, recurses := true, named := ["internal/bytealg.MaxLen", "unicode/utf8.first", "unicode/utf8.acceptRanges"], apart := false, laid := [("unicode/utf8.acceptRanges", laid_unicode_utf8_acceptRanges), ("unicode/utf8.first", laid_unicode_utf8_first)] }
def AttrReturnsSaid : Prop := attrReturnsRow.holds Tryd.pinned (OpenSpec.ofChange attrReturnsSpec)

/-- ITS FALSE NEIGHBOUR: 'it returns false'. Refute it at one input. -/
def attrReturnsWrong : ChangeSpec := { name := "attrReturns", fn := fun _ => fun
  | [d] => { results := [.lit (.bool false)], args := [d] }
  | _ => none }
def AttrReturnsWrongFalsely : Prop := attrReturnsRow.holds Tryd.pinned (OpenSpec.ofChange attrReturnsWrong)

/-- 'filespacelaw22.AttrSelects': WHATEVER THE INPUT: true; the input reads as it did. -/
def attrSelectsSpec : ChangeSpec := { name := "attrSelects", fn := fun _ => fun
  | [d1, d2, d3] => { results := [.lit (.bool true)], args := [d1, d2, d3] }
  | _ => none }
def attrSelectsRow : OpenClaim := { program := "ytjlbepebaegmeaadoor", sum := "89bc46ed404d41ab904660d75c58792dd0209a0b289e19d569b0d14fba16716d", func := "filespace/filespacelaw22.AttrSelects", spec := "attrSelects", inPlace := ["internal/bytealg.IndexByteString", "internal/abi.NoEscape", "internal/bytealg.IndexString", "internal/bytealg.CountString", "internal/bytealg.MakeNoZero"], unfollowed := true, recurses := true, named := ["internal/bytealg.MaxLen", "unicode/utf8.first", "unicode/utf8.acceptRanges"], apart := false, laid := [("unicode/utf8.acceptRanges", laid_unicode_utf8_acceptRanges), ("unicode/utf8.first", laid_unicode_utf8_first)] }
def AttrSelectsSaid : Prop := attrSelectsRow.holds Tryd.pinned (OpenSpec.ofChange attrSelectsSpec)

/-- ITS FALSE NEIGHBOUR: 'it returns false'. Refute it at one input. -/
def attrSelectsWrong : ChangeSpec := { name := "attrSelects", fn := fun _ => fun
  | [d1, d2, d3] => { results := [.lit (.bool false)], args := [d1, d2, d3] }
  | _ => none }
def AttrSelectsWrongFalsely : Prop := attrSelectsRow.holds Tryd.pinned (OpenSpec.ofChange attrSelectsWrong)

/-- 'filespacelaw22.AttrSets': WHATEVER THE INPUT: true; the input reads as it did. -/
def attrSetsSpec : ChangeSpec := { name := "attrSets", fn := fun _ => fun
  | [d1, d2, d3] => { results := [.lit (.bool true)], args := [d1, d2, d3] }
  | _ => none }
def attrSetsRow : OpenClaim := { program := "ytjlbepebaegmeaadoor", sum := "89bc46ed404d41ab904660d75c58792dd0209a0b289e19d569b0d14fba16716d", func := "filespace/filespacelaw22.AttrSets", spec := "attrSets", inPlace := ["internal/bytealg.IndexByteString", "internal/abi.NoEscape", "internal/bytealg.IndexString", "internal/bytealg.CountString", "internal/bytealg.MakeNoZero"], unfollowed := true, recurses := true, named := ["internal/bytealg.MaxLen", "unicode/utf8.first", "unicode/utf8.acceptRanges"], apart := false, laid := [("unicode/utf8.acceptRanges", laid_unicode_utf8_acceptRanges), ("unicode/utf8.first", laid_unicode_utf8_first)] }
def AttrSetsSaid : Prop := attrSetsRow.holds Tryd.pinned (OpenSpec.ofChange attrSetsSpec)

/-- ITS FALSE NEIGHBOUR: 'it returns false'. Refute it at one input. -/
def attrSetsWrong : ChangeSpec := { name := "attrSets", fn := fun _ => fun
  | [d1, d2, d3] => { results := [.lit (.bool false)], args := [d1, d2, d3] }
  | _ => none }
def AttrSetsWrongFalsely : Prop := attrSetsRow.holds Tryd.pinned (OpenSpec.ofChange attrSetsWrong)

/-- 'filespacelaw22.AttrFinds': WHATEVER THE INPUT: true; the input reads as it did. -/
def attrFindsSpec : ChangeSpec := { name := "attrFinds", fn := fun _ => fun
  | [d1, d2, d3] => { results := [.lit (.bool true)], args := [d1, d2, d3] }
  | _ => none }
def attrFindsRow : OpenClaim := { program := "ytjlbepebaegmeaadoor", sum := "89bc46ed404d41ab904660d75c58792dd0209a0b289e19d569b0d14fba16716d", func := "filespace/filespacelaw22.AttrFinds", spec := "attrFinds", inPlace := ["internal/bytealg.IndexByteString", "internal/abi.NoEscape", "internal/bytealg.IndexString", "internal/bytealg.CountString", "internal/bytealg.MakeNoZero"], unfollowed := true, recurses := true, named := ["internal/bytealg.MaxLen", "unicode/utf8.first", "unicode/utf8.acceptRanges"], apart := false, laid := [("unicode/utf8.acceptRanges", laid_unicode_utf8_acceptRanges), ("unicode/utf8.first", laid_unicode_utf8_first)] }
def AttrFindsSaid : Prop := attrFindsRow.holds Tryd.pinned (OpenSpec.ofChange attrFindsSpec)

/-- ITS FALSE NEIGHBOUR: 'it returns false'. Refute it at one input. -/
def attrFindsWrong : ChangeSpec := { name := "attrFinds", fn := fun _ => fun
  | [d1, d2, d3] => { results := [.lit (.bool false)], args := [d1, d2, d3] }
  | _ => none }
def AttrFindsWrongFalsely : Prop := attrFindsRow.holds Tryd.pinned (OpenSpec.ofChange attrFindsWrong)

/- THE SECOND FORM. 'bulk': how many values and letters a reading holds, each counted each time it is reached (what is shared counts as often as it is met; a slice's spare places count too). A statement '..UptoSaid' is the law's where the arguments, and the package variables that the reading takes, are together of bulk at most 1048576: NARROWER than '..Said'. Prove '..Said' where nothing that the law and all that it calls make is longer than what came in: it says more and counts as full. Else prove '..UptoSaid'. A law counts once. -/
mutual
def uptoBulk {H : Type} : DataW H → Nat
  | .lit (.string bytes) => bytes.length + 1
  | .lit _ => 1
  | .nil => 1
  | .ptr d => uptoBulk d + 1
  | .slice elems spare => uptoBulkAll elems + uptoBulkAll spare + 1
  | .agg parts => uptoBulkAll parts + 1
  | .iface _ d => uptoBulk d + 1
  | .map entries => uptoBulkEntries entries + 1
  | .held _ => 1
def uptoBulkAll {H : Type} : List (DataW H) → Nat
  | [] => 0
  | d :: r => uptoBulk d + uptoBulkAll r
def uptoBulkEntries {H : Type} : List (Lit × DataW H) → Nat
  | [] => 0
  | x :: r => uptoBulkEntry x + uptoBulkEntries r
def uptoBulkEntry {H : Type} : Lit × DataW H → Nat
  | (.string bytes, d) => bytes.length + uptoBulk d + 1
  | (_, d) => uptoBulk d + 1
 end
def uptoSmall : (H : Type) → List (DataW H) → Bool := fun _ ds => decide (uptoBulkAll ds ≤ 1048576)
def OpenSpec.upto (s : _root_.Go.ChangeSpec) : _root_.Go.OpenSpec := { _root_.Go.OpenSpec.ofChange s with cond := some uptoSmall }

/-- 'filespacelaw22.AttrChecks', WHERE WHAT IT READS IS OF BULK AT MOST 1048576: true; the input reads as it did. -/
def attrChecksUptoRow : OpenClaim := { program := "ytjlbepebaegmeaadoor", sum := "89bc46ed404d41ab904660d75c58792dd0209a0b289e19d569b0d14fba16716d", func := "filespace/filespacelaw22.AttrChecks", spec := "attrChecks", inPlace := ["internal/bytealg.IndexByteString", "internal/abi.NoEscape", "internal/bytealg.IndexString", "internal/bytealg.CountString", "internal/bytealg.MakeNoZero"], unfollowed := true, recurses := true, named := ["internal/bytealg.MaxLen", "unicode/utf8.first", "unicode/utf8.acceptRanges"], apart := false, laid := [("unicode/utf8.acceptRanges", laid_unicode_utf8_acceptRanges), ("unicode/utf8.first", laid_unicode_utf8_first)], narrowed := true }
def AttrChecksUptoSaid : Prop := attrChecksUptoRow.holds Tryd.pinned (OpenSpec.upto attrChecksSpec)

/-- 'filespacelaw22.AttrPrints', WHERE WHAT IT READS IS OF BULK AT MOST 1048576: true; the input reads as it did. -/
def attrPrintsUptoRow : OpenClaim := { program := "ytjlbepebaegmeaadoor", sum := "89bc46ed404d41ab904660d75c58792dd0209a0b289e19d569b0d14fba16716d", func := "filespace/filespacelaw22.AttrPrints", spec := "attrPrints", inPlace := ["internal/bytealg.IndexByteString", "internal/abi.NoEscape", "internal/bytealg.IndexString", "internal/bytealg.CountString", "internal/bytealg.MakeNoZero"], unfollowed := true, recurses := true, named := ["internal/bytealg.MaxLen", "unicode/utf8.first", "unicode/utf8.acceptRanges"], apart := false, laid := [("unicode/utf8.acceptRanges", laid_unicode_utf8_acceptRanges), ("unicode/utf8.first", laid_unicode_utf8_first)], narrowed := true }
def AttrPrintsUptoSaid : Prop := attrPrintsUptoRow.holds Tryd.pinned (OpenSpec.upto attrPrintsSpec)

/-- 'filespacelaw22.AttrParses', WHERE WHAT IT READS IS OF BULK AT MOST 1048576: true; the input reads as it did. -/
def attrParsesUptoRow : OpenClaim := { program := "ytjlbepebaegmeaadoor", sum := "89bc46ed404d41ab904660d75c58792dd0209a0b289e19d569b0d14fba16716d", func := "filespace/filespacelaw22.AttrParses", spec := "attrParses", inPlace := ["internal/bytealg.IndexByteString", "internal/abi.NoEscape", "internal/bytealg.IndexString", "internal/bytealg.CountString", "internal/bytealg.MakeNoZero"], unfollowed := true, recurses := true, named := ["internal/bytealg.MaxLen", "unicode/utf8.first", "unicode/utf8.acceptRanges"], apart := false, laid := [("unicode/utf8.acceptRanges", laid_unicode_utf8_acceptRanges), ("unicode/utf8.first", laid_unicode_utf8_first)], narrowed := true }
def AttrParsesUptoSaid : Prop := attrParsesUptoRow.holds Tryd.pinned (OpenSpec.upto attrParsesSpec)

/-- 'filespacelaw22.AttrMatches', WHERE WHAT IT READS IS OF BULK AT MOST 1048576: true; the input reads as it did. -/
def attrMatchesUptoRow : OpenClaim := { program := "ytjlbepebaegmeaadoor", sum := "89bc46ed404d41ab904660d75c58792dd0209a0b289e19d569b0d14fba16716d", func := "filespace/filespacelaw22.AttrMatches", spec := "attrMatches", inPlace := ["internal/bytealg.IndexByteString", "internal/abi.NoEscape", "internal/bytealg.IndexString", "internal/bytealg.CountString", "internal/bytealg.MakeNoZero"], unfollowed := true, recurses := true, named := ["internal/bytealg.MaxLen", "unicode/utf8.first", "unicode/utf8.acceptRanges"], apart := false, laid := [("unicode/utf8.acceptRanges", laid_unicode_utf8_acceptRanges), ("unicode/utf8.first", laid_unicode_utf8_first)], narrowed := true }
def AttrMatchesUptoSaid : Prop := attrMatchesUptoRow.holds Tryd.pinned (OpenSpec.upto attrMatchesSpec)

/-- 'filespacelaw22.AttrReturns', WHERE WHAT IT READS IS OF BULK AT MOST 1048576: true; the input reads as it did. -/
def attrReturnsUptoRow : OpenClaim := { program := "ytjlbepebaegmeaadoor", sum := "89bc46ed404d41ab904660d75c58792dd0209a0b289e19d569b0d14fba16716d", func := "filespace/filespacelaw22.AttrReturns", spec := "attrReturns", inPlace := ["internal/bytealg.IndexByteString", "internal/abi.NoEscape", "internal/bytealg.IndexString", "internal/bytealg.CountString", "internal/bytealg.MakeNoZero"], unfollowed := true, recurses := true, named := ["internal/bytealg.MaxLen", "unicode/utf8.first", "unicode/utf8.acceptRanges"], apart := false, laid := [("unicode/utf8.acceptRanges", laid_unicode_utf8_acceptRanges), ("unicode/utf8.first", laid_unicode_utf8_first)], narrowed := true }
def AttrReturnsUptoSaid : Prop := attrReturnsUptoRow.holds Tryd.pinned (OpenSpec.upto attrReturnsSpec)

/-- 'filespacelaw22.AttrSelects', WHERE WHAT IT READS IS OF BULK AT MOST 1048576: true; the input reads as it did. -/
def attrSelectsUptoRow : OpenClaim := { program := "ytjlbepebaegmeaadoor", sum := "89bc46ed404d41ab904660d75c58792dd0209a0b289e19d569b0d14fba16716d", func := "filespace/filespacelaw22.AttrSelects", spec := "attrSelects", inPlace := ["internal/bytealg.IndexByteString", "internal/abi.NoEscape", "internal/bytealg.IndexString", "internal/bytealg.CountString", "internal/bytealg.MakeNoZero"], unfollowed := true, recurses := true, named := ["internal/bytealg.MaxLen", "unicode/utf8.first", "unicode/utf8.acceptRanges"], apart := false, laid := [("unicode/utf8.acceptRanges", laid_unicode_utf8_acceptRanges), ("unicode/utf8.first", laid_unicode_utf8_first)], narrowed := true }
def AttrSelectsUptoSaid : Prop := attrSelectsUptoRow.holds Tryd.pinned (OpenSpec.upto attrSelectsSpec)

/-- 'filespacelaw22.AttrSets', WHERE WHAT IT READS IS OF BULK AT MOST 1048576: true; the input reads as it did. -/
def attrSetsUptoRow : OpenClaim := { program := "ytjlbepebaegmeaadoor", sum := "89bc46ed404d41ab904660d75c58792dd0209a0b289e19d569b0d14fba16716d", func := "filespace/filespacelaw22.AttrSets", spec := "attrSets", inPlace := ["internal/bytealg.IndexByteString", "internal/abi.NoEscape", "internal/bytealg.IndexString", "internal/bytealg.CountString", "internal/bytealg.MakeNoZero"], unfollowed := true, recurses := true, named := ["internal/bytealg.MaxLen", "unicode/utf8.first", "unicode/utf8.acceptRanges"], apart := false, laid := [("unicode/utf8.acceptRanges", laid_unicode_utf8_acceptRanges), ("unicode/utf8.first", laid_unicode_utf8_first)], narrowed := true }
def AttrSetsUptoSaid : Prop := attrSetsUptoRow.holds Tryd.pinned (OpenSpec.upto attrSetsSpec)

/-- 'filespacelaw22.AttrFinds', WHERE WHAT IT READS IS OF BULK AT MOST 1048576: true; the input reads as it did. -/
def attrFindsUptoRow : OpenClaim := { program := "ytjlbepebaegmeaadoor", sum := "89bc46ed404d41ab904660d75c58792dd0209a0b289e19d569b0d14fba16716d", func := "filespace/filespacelaw22.AttrFinds", spec := "attrFinds", inPlace := ["internal/bytealg.IndexByteString", "internal/abi.NoEscape", "internal/bytealg.IndexString", "internal/bytealg.CountString", "internal/bytealg.MakeNoZero"], unfollowed := true, recurses := true, named := ["internal/bytealg.MaxLen", "unicode/utf8.first", "unicode/utf8.acceptRanges"], apart := false, laid := [("unicode/utf8.acceptRanges", laid_unicode_utf8_acceptRanges), ("unicode/utf8.first", laid_unicode_utf8_first)], narrowed := true }
def AttrFindsUptoSaid : Prop := attrFindsUptoRow.holds Tryd.pinned (OpenSpec.upto attrFindsSpec)

end Rows
end Go.Proofs.YtjlbepebaegmeaaDoor
