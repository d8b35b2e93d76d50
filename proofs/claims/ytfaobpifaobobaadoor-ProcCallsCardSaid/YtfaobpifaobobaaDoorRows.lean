/-
  NARROWER THAN 'FOR EVERY INPUT', by the rows' own cells (each row's printed sentence says how): ProcNews: laid · ProcRight: laid · ProcWaits: laid · ProcGroups: laid · ProcCalls: laid.
  DERIVED. THE GIVEN ROWS OF THIS SEAT. 5 by the template 'for every input the law returns true; each argument reads behind the call as it read before'; 0 by the template 'total and deterministic' (their statements: YtfaobpifaobobaaDoorTotals.lean).
  GIVEN WITH THE SEED: the statements are not yours to turn. If you find one false, say at which input.
  Laid BY PROGRAM, IN A SANDBOX (cutbox-rows.mjs): the forced cells as the released guide's own fill.sh prints them over the translation 61a9f9eae601b294… (all of the seat's roots in one cut). By AI agents, Wed Nov 11 2026. No macro, syntax, notation, axiom, sorry.
-/
import Derived.Test.YtfaobpifaobobaaDoorChecked
import GoSem.PinnedTables
import GoSem.Claim
import GoSem.ClaimJoined
import GoSem.ClaimMapViews
import Derived.JoinedTies
import Derived.KernelRfl
namespace Go.Proofs.YtfaobpifaobobaaDoor
/- THE CELL 'sum', in the pinned program and in every row, IS THE sha256 OF THE DUMP (.gsa) THAT YtfaobpifaobobaaDoorProg.lean LOADS. Nothing in Lean hashes anything: it is a label: what it is worth is what the hold of that sum in a sandbox is worth. -/
noncomputable def Tryd.pinned : Pinned := { name := "ytfaobpifaobobaadoor", sum := "61a9f9eae601b294fa242acfd66ab2ddc9788703477c1d6b0fd4e91e35c61120", checked := Tryd.checked }
namespace Rows
def none {H : Type} : Left H := { results := [], args := [] }

/- WHAT THE LISTED PACKAGE-LEVEL VARIABLES READ AS WHEN THE CALL BEGINS. Each datum BY PROGRAM (the guide's laid-datum.mjs) off the statement by which the dump's own 'gosem.cut.vars' lays the variable. In a bare row this is a premise. The card (YtfaobpifaobobaaDoorCards.lean) ties it to the program's text. -/
def laid_unicode_utf8_acceptRanges {H : Type} : DataW H := .agg [.agg [.lit (.int .u8 128), .lit (.int .u8 191)], .agg [.lit (.int .u8 160), .lit (.int .u8 191)], .agg [.lit (.int .u8 128), .lit (.int .u8 159)], .agg [.lit (.int .u8 144), .lit (.int .u8 191)], .agg [.lit (.int .u8 128), .lit (.int .u8 143)], .agg [.lit (.int .u8 0), .lit (.int .u8 0)], .agg [.lit (.int .u8 0), .lit (.int .u8 0)], .agg [.lit (.int .u8 0), .lit (.int .u8 0)], .agg [.lit (.int .u8 0), .lit (.int .u8 0)], .agg [.lit (.int .u8 0), .lit (.int .u8 0)], .agg [.lit (.int .u8 0), .lit (.int .u8 0)], .agg [.lit (.int .u8 0), .lit (.int .u8 0)], .agg [.lit (.int .u8 0), .lit (.int .u8 0)], .agg [.lit (.int .u8 0), .lit (.int .u8 0)], .agg [.lit (.int .u8 0), .lit (.int .u8 0)], .agg [.lit (.int .u8 0), .lit (.int .u8 0)]]
/-- One of Go's own tables, pinned by name: the form's constant. -/
def laid_unicode_utf8_first : DataW Unit := Go.Pinned.utf8First

/-- 'filespacelaw30.ProcNews': WHATEVER THE INPUT: true; the input reads as it did. -/
def procNewsSpec : ChangeSpec := { name := "procNews", fn := fun _ => fun
  | [d] => { results := [.lit (.bool true)], args := [d] }
  | _ => none }
def procNewsRow : OpenClaim := { program := "ytfaobpifaobobaadoor", sum := "61a9f9eae601b294fa242acfd66ab2ddc9788703477c1d6b0fd4e91e35c61120", func := "filespace/filespacelaw30.ProcNews", spec := "procNews", inPlace := ["internal/bytealg.CountString", "internal/bytealg.IndexByteString", "internal/bytealg.IndexString", "internal/abi.NoEscape", "internal/bytealg.MakeNoZero"], unfollowed := true, recurses := true, named := ["unicode/utf8.first", "unicode/utf8.acceptRanges", "internal/bytealg.MaxLen"], apart := false, laid := [("unicode/utf8.acceptRanges", laid_unicode_utf8_acceptRanges), ("unicode/utf8.first", laid_unicode_utf8_first)] }
def ProcNewsSaid : Prop := procNewsRow.holds Tryd.pinned (OpenSpec.ofChange procNewsSpec)

/-- ITS FALSE NEIGHBOUR: 'it returns false'. Refute it at one input. -/
def procNewsWrong : ChangeSpec := { name := "procNews", fn := fun _ => fun
  | [d] => { results := [.lit (.bool false)], args := [d] }
  | _ => none }
def ProcNewsWrongFalsely : Prop := procNewsRow.holds Tryd.pinned (OpenSpec.ofChange procNewsWrong)

/-- 'filespacelaw30.ProcRight': WHATEVER THE INPUT: true; the input reads as it did. -/
def procRightSpec : ChangeSpec := { name := "procRight", fn := fun _ => fun
  | [d1, d2] => { results := [.lit (.bool true)], args := [d1, d2] }
  | _ => none }
def procRightRow : OpenClaim := { program := "ytfaobpifaobobaadoor", sum := "61a9f9eae601b294fa242acfd66ab2ddc9788703477c1d6b0fd4e91e35c61120", func := "filespace/filespacelaw30.ProcRight", spec := "procRight", inPlace := ["internal/bytealg.CountString", "internal/bytealg.IndexByteString", "internal/bytealg.IndexString", "internal/abi.NoEscape", "internal/bytealg.MakeNoZero"], unfollowed := true, recurses := true, named := ["unicode/utf8.first", "unicode/utf8.acceptRanges", "internal/bytealg.MaxLen"], apart := false, laid := [("unicode/utf8.acceptRanges", laid_unicode_utf8_acceptRanges), ("unicode/utf8.first", laid_unicode_utf8_first)] }
def ProcRightSaid : Prop := procRightRow.holds Tryd.pinned (OpenSpec.ofChange procRightSpec)

/-- ITS FALSE NEIGHBOUR: 'it returns false'. Refute it at one input. -/
def procRightWrong : ChangeSpec := { name := "procRight", fn := fun _ => fun
  | [d1, d2] => { results := [.lit (.bool false)], args := [d1, d2] }
  | _ => none }
def ProcRightWrongFalsely : Prop := procRightRow.holds Tryd.pinned (OpenSpec.ofChange procRightWrong)

/-- 'filespacelaw30.ProcWaits': WHATEVER THE INPUT: true; the input reads as it did. -/
def procWaitsSpec : ChangeSpec := { name := "procWaits", fn := fun _ => fun
  | [d1, d2, d3] => { results := [.lit (.bool true)], args := [d1, d2, d3] }
  | _ => none }
def procWaitsRow : OpenClaim := { program := "ytfaobpifaobobaadoor", sum := "61a9f9eae601b294fa242acfd66ab2ddc9788703477c1d6b0fd4e91e35c61120", func := "filespace/filespacelaw30.ProcWaits", spec := "procWaits", inPlace := ["internal/bytealg.CountString", "internal/bytealg.IndexByteString", "internal/bytealg.IndexString", "internal/abi.NoEscape", "internal/bytealg.MakeNoZero"], unfollowed := true, recurses := true, named := ["unicode/utf8.first", "unicode/utf8.acceptRanges", "internal/bytealg.MaxLen"], apart := false, laid := [("unicode/utf8.acceptRanges", laid_unicode_utf8_acceptRanges), ("unicode/utf8.first", laid_unicode_utf8_first)] }
def ProcWaitsSaid : Prop := procWaitsRow.holds Tryd.pinned (OpenSpec.ofChange procWaitsSpec)

/-- ITS FALSE NEIGHBOUR: 'it returns false'. Refute it at one input. -/
def procWaitsWrong : ChangeSpec := { name := "procWaits", fn := fun _ => fun
  | [d1, d2, d3] => { results := [.lit (.bool false)], args := [d1, d2, d3] }
  | _ => none }
def ProcWaitsWrongFalsely : Prop := procWaitsRow.holds Tryd.pinned (OpenSpec.ofChange procWaitsWrong)

/-- 'filespacelaw30.ProcGroups': WHATEVER THE INPUT: true; the input reads as it did. -/
def procGroupsSpec : ChangeSpec := { name := "procGroups", fn := fun _ => fun
  | [d1, d2, d3] => { results := [.lit (.bool true)], args := [d1, d2, d3] }
  | _ => none }
def procGroupsRow : OpenClaim := { program := "ytfaobpifaobobaadoor", sum := "61a9f9eae601b294fa242acfd66ab2ddc9788703477c1d6b0fd4e91e35c61120", func := "filespace/filespacelaw30.ProcGroups", spec := "procGroups", inPlace := ["internal/bytealg.CountString", "internal/bytealg.IndexByteString", "internal/bytealg.IndexString", "internal/abi.NoEscape", "internal/bytealg.MakeNoZero"], unfollowed := true, recurses := true, named := ["unicode/utf8.first", "unicode/utf8.acceptRanges", "internal/bytealg.MaxLen"], apart := false, laid := [("unicode/utf8.acceptRanges", laid_unicode_utf8_acceptRanges), ("unicode/utf8.first", laid_unicode_utf8_first)] }
def ProcGroupsSaid : Prop := procGroupsRow.holds Tryd.pinned (OpenSpec.ofChange procGroupsSpec)

/-- ITS FALSE NEIGHBOUR: 'it returns false'. Refute it at one input. -/
def procGroupsWrong : ChangeSpec := { name := "procGroups", fn := fun _ => fun
  | [d1, d2, d3] => { results := [.lit (.bool false)], args := [d1, d2, d3] }
  | _ => none }
def ProcGroupsWrongFalsely : Prop := procGroupsRow.holds Tryd.pinned (OpenSpec.ofChange procGroupsWrong)

/-- 'filespacelaw30.ProcCalls': WHATEVER THE INPUT: true; the input reads as it did. -/
def procCallsSpec : ChangeSpec := { name := "procCalls", fn := fun _ => fun
  | [d1, d2] => { results := [.lit (.bool true)], args := [d1, d2] }
  | _ => none }
def procCallsRow : OpenClaim := { program := "ytfaobpifaobobaadoor", sum := "61a9f9eae601b294fa242acfd66ab2ddc9788703477c1d6b0fd4e91e35c61120", func := "filespace/filespacelaw30.ProcCalls", spec := "procCalls", inPlace := ["internal/bytealg.CountString", "internal/bytealg.IndexByteString", "internal/bytealg.IndexString", "internal/abi.NoEscape", "internal/bytealg.MakeNoZero"], unfollowed := true, recurses := true, named := ["unicode/utf8.first", "unicode/utf8.acceptRanges", "internal/bytealg.MaxLen"], apart := false, laid := [("unicode/utf8.acceptRanges", laid_unicode_utf8_acceptRanges), ("unicode/utf8.first", laid_unicode_utf8_first)] }
def ProcCallsSaid : Prop := procCallsRow.holds Tryd.pinned (OpenSpec.ofChange procCallsSpec)

/-- ITS FALSE NEIGHBOUR: 'it returns false'. Refute it at one input. -/
def procCallsWrong : ChangeSpec := { name := "procCalls", fn := fun _ => fun
  | [d1, d2] => { results := [.lit (.bool false)], args := [d1, d2] }
  | _ => none }
def ProcCallsWrongFalsely : Prop := procCallsRow.holds Tryd.pinned (OpenSpec.ofChange procCallsWrong)

/- THE SECOND FORM. 'bulk': how many values and letters a reading holds, each counted each time it is reached (what is shared counts as often as it is met; a slice's spare places count too). A statement '..UptoSaid' is the law's where the arguments, and the package variables that the reading takes, are together of bulk at most 1048576: NARROWER than '..Said'. Prove '..Said' where nothing that the law and all that it calls make is longer than what came in: it says more and counts as full. Else prove '..UptoSaid'. A law counts once. -/
mutual
def uptoBulk {H : Type} : DataW H → Nat
  | .lit (.string bytes) => bytes.length + 1
  | .lit _ => 1
  | .nil => 1
  | .ptr d => uptoBulk d + 1
  | .slice elems spare => uptoBulkAll elems + uptoBulkAll spare + 1
  | .agg parts => uptoBulkAll parts + 1
  | .iface _ d => uptoBulk d + 1
  | .map entries => uptoBulkEntries entries + 1
  | .held _ => 1
def uptoBulkAll {H : Type} : List (DataW H) → Nat
  | [] => 0
  | d :: r => uptoBulk d + uptoBulkAll r
def uptoBulkEntries {H : Type} : List (Lit × DataW H) → Nat
  | [] => 0
  | x :: r => uptoBulkEntry x + uptoBulkEntries r
def uptoBulkEntry {H : Type} : Lit × DataW H → Nat
  | (.string bytes, d) => bytes.length + uptoBulk d + 1
  | (_, d) => uptoBulk d + 1
 end
def uptoSmall : (H : Type) → List (DataW H) → Bool := fun _ ds => decide (uptoBulkAll ds ≤ 1048576)
def OpenSpec.upto (s : _root_.Go.ChangeSpec) : _root_.Go.OpenSpec := { _root_.Go.OpenSpec.ofChange s with cond := some uptoSmall }

/-- 'filespacelaw30.ProcNews', WHERE WHAT IT READS IS OF BULK AT MOST 1048576: true; the input reads as it did. -/
def procNewsUptoRow : OpenClaim := { program := "ytfaobpifaobobaadoor", sum := "61a9f9eae601b294fa242acfd66ab2ddc9788703477c1d6b0fd4e91e35c61120", func := "filespace/filespacelaw30.ProcNews", spec := "procNews", inPlace := ["internal/bytealg.CountString", "internal/bytealg.IndexByteString", "internal/bytealg.IndexString", "internal/abi.NoEscape", "internal/bytealg.MakeNoZero"], unfollowed := true, recurses := true, named := ["unicode/utf8.first", "unicode/utf8.acceptRanges", "internal/bytealg.MaxLen"], apart := false, laid := [("unicode/utf8.acceptRanges", laid_unicode_utf8_acceptRanges), ("unicode/utf8.first", laid_unicode_utf8_first)], narrowed := true }
def ProcNewsUptoSaid : Prop := procNewsUptoRow.holds Tryd.pinned (OpenSpec.upto procNewsSpec)

/-- 'filespacelaw30.ProcRight', WHERE WHAT IT READS IS OF BULK AT MOST 1048576: true; the input reads as it did. -/
def procRightUptoRow : OpenClaim := { program := "ytfaobpifaobobaadoor", sum := "61a9f9eae601b294fa242acfd66ab2ddc9788703477c1d6b0fd4e91e35c61120", func := "filespace/filespacelaw30.ProcRight", spec := "procRight", inPlace := ["internal/bytealg.CountString", "internal/bytealg.IndexByteString", "internal/bytealg.IndexString", "internal/abi.NoEscape", "internal/bytealg.MakeNoZero"], unfollowed := true, recurses := true, named := ["unicode/utf8.first", "unicode/utf8.acceptRanges", "internal/bytealg.MaxLen"], apart := false, laid := [("unicode/utf8.acceptRanges", laid_unicode_utf8_acceptRanges), ("unicode/utf8.first", laid_unicode_utf8_first)], narrowed := true }
def ProcRightUptoSaid : Prop := procRightUptoRow.holds Tryd.pinned (OpenSpec.upto procRightSpec)

/-- 'filespacelaw30.ProcWaits', WHERE WHAT IT READS IS OF BULK AT MOST 1048576: true; the input reads as it did. -/
def procWaitsUptoRow : OpenClaim := { program := "ytfaobpifaobobaadoor", sum := "61a9f9eae601b294fa242acfd66ab2ddc9788703477c1d6b0fd4e91e35c61120", func := "filespace/filespacelaw30.ProcWaits", spec := "procWaits", inPlace := ["internal/bytealg.CountString", "internal/bytealg.IndexByteString", "internal/bytealg.IndexString", "internal/abi.NoEscape", "internal/bytealg.MakeNoZero"], unfollowed := true, recurses := true, named := ["unicode/utf8.first", "unicode/utf8.acceptRanges", "internal/bytealg.MaxLen"], apart := false, laid := [("unicode/utf8.acceptRanges", laid_unicode_utf8_acceptRanges), ("unicode/utf8.first", laid_unicode_utf8_first)], narrowed := true }
def ProcWaitsUptoSaid : Prop := procWaitsUptoRow.holds Tryd.pinned (OpenSpec.upto procWaitsSpec)

/-- 'filespacelaw30.ProcGroups', WHERE WHAT IT READS IS OF BULK AT MOST 1048576: true; the input reads as it did. -/
def procGroupsUptoRow : OpenClaim := { program := "ytfaobpifaobobaadoor", sum := "61a9f9eae601b294fa242acfd66ab2ddc9788703477c1d6b0fd4e91e35c61120", func := "filespace/filespacelaw30.ProcGroups", spec := "procGroups", inPlace := ["internal/bytealg.CountString", "internal/bytealg.IndexByteString", "internal/bytealg.IndexString", "internal/abi.NoEscape", "internal/bytealg.MakeNoZero"], unfollowed := true, recurses := true, named := ["unicode/utf8.first", "unicode/utf8.acceptRanges", "internal/bytealg.MaxLen"], apart := false, laid := [("unicode/utf8.acceptRanges", laid_unicode_utf8_acceptRanges), ("unicode/utf8.first", laid_unicode_utf8_first)], narrowed := true }
def ProcGroupsUptoSaid : Prop := procGroupsUptoRow.holds Tryd.pinned (OpenSpec.upto procGroupsSpec)

/-- 'filespacelaw30.ProcCalls', WHERE WHAT IT READS IS OF BULK AT MOST 1048576: true; the input reads as it did. -/
def procCallsUptoRow : OpenClaim := { program := "ytfaobpifaobobaadoor", sum := "61a9f9eae601b294fa242acfd66ab2ddc9788703477c1d6b0fd4e91e35c61120", func := "filespace/filespacelaw30.ProcCalls", spec := "procCalls", inPlace := ["internal/bytealg.CountString", "internal/bytealg.IndexByteString", "internal/bytealg.IndexString", "internal/abi.NoEscape", "internal/bytealg.MakeNoZero"], unfollowed := true, recurses := true, named := ["unicode/utf8.first", "unicode/utf8.acceptRanges", "internal/bytealg.MaxLen"], apart := false, laid := [("unicode/utf8.acceptRanges", laid_unicode_utf8_acceptRanges), ("unicode/utf8.first", laid_unicode_utf8_first)], narrowed := true }
def ProcCallsUptoSaid : Prop := procCallsUptoRow.holds Tryd.pinned (OpenSpec.upto procCallsSpec)

end Rows
end Go.Proofs.YtfaobpifaobobaaDoor
