/-
  DERIVED. GIVEN WITH THE SEED: THE CARDS: each row of YtfaobpifaobobaaDoorRows.lean that lists a variable, with what it lists TIED to the program's text (the seventh form; the later family's looks); each row that meets fmt, with fmt's text TOLD by the authors' own Lean function (tested against real Go, not proved from fmt's source: count such statements apart). THE CARD IS WHAT COUNTS. Prove the row's statement (the work); the ties are given (YtfaobpifaobobaaDoorTie.lean); close each card by the builder's one call (the guide's Derived/Test/ToyasCard.lean, 'card_holds'). Laid BY PROGRAM, IN A SANDBOX (cutbox-door.mjs). By AI agents, Wed Nov 11 2026. No macro, syntax, notation, axiom, sorry.
-/
import Derived.Test.YtfaobpifaobobaaDoorRows
import GoSem.ClaimSeven
namespace Go.Proofs.YtfaobpifaobobaaDoor
namespace Rows

/-- THE TIED CARD OF 'filespacelaw30.ProcNews'. -/
def procNewsCard : Claim7 := { stood := { row := procNewsRow, standIns := [], harness := (true, "07299f55a087af88df34ed9a8441cfe5fb09456fd8a7df49fd7daa28008819c9"), looks := false }, kinds := [], alts := [], laidByText := true, laidKinds := [.data, .pinned], laidTests := true, laidLooks := .later }
def ProcNewsCardSaid : Prop := Claim7.holds Tryd.pinned (.plain (OpenSpec.ofChange procNewsSpec)) procNewsCard

/-- THE TIED CARD OF 'filespacelaw30.ProcRight'. -/
def procRightCard : Claim7 := { stood := { row := procRightRow, standIns := [], harness := (true, "07299f55a087af88df34ed9a8441cfe5fb09456fd8a7df49fd7daa28008819c9"), looks := false }, kinds := [], alts := [], laidByText := true, laidKinds := [.data, .pinned], laidTests := true, laidLooks := .later }
def ProcRightCardSaid : Prop := Claim7.holds Tryd.pinned (.plain (OpenSpec.ofChange procRightSpec)) procRightCard

/-- THE TIED CARD OF 'filespacelaw30.ProcWaits'. -/
def procWaitsCard : Claim7 := { stood := { row := procWaitsRow, standIns := [], harness := (true, "07299f55a087af88df34ed9a8441cfe5fb09456fd8a7df49fd7daa28008819c9"), looks := false }, kinds := [], alts := [], laidByText := true, laidKinds := [.data, .pinned], laidTests := true, laidLooks := .later }
def ProcWaitsCardSaid : Prop := Claim7.holds Tryd.pinned (.plain (OpenSpec.ofChange procWaitsSpec)) procWaitsCard

/-- THE TIED CARD OF 'filespacelaw30.ProcGroups'. -/
def procGroupsCard : Claim7 := { stood := { row := procGroupsRow, standIns := [], harness := (true, "07299f55a087af88df34ed9a8441cfe5fb09456fd8a7df49fd7daa28008819c9"), looks := false }, kinds := [], alts := [], laidByText := true, laidKinds := [.data, .pinned], laidTests := true, laidLooks := .later }
def ProcGroupsCardSaid : Prop := Claim7.holds Tryd.pinned (.plain (OpenSpec.ofChange procGroupsSpec)) procGroupsCard

/-- THE TIED CARD OF 'filespacelaw30.ProcCalls'. -/
def procCallsCard : Claim7 := { stood := { row := procCallsRow, standIns := [], harness := (true, "07299f55a087af88df34ed9a8441cfe5fb09456fd8a7df49fd7daa28008819c9"), looks := false }, kinds := [], alts := [], laidByText := true, laidKinds := [.data, .pinned], laidTests := true, laidLooks := .later }
def ProcCallsCardSaid : Prop := Claim7.holds Tryd.pinned (.plain (OpenSpec.ofChange procCallsSpec)) procCallsCard

/-- THE SECOND FORM's CARD OF 'filespacelaw30.ProcNews'. -/
def procNewsUptoCard : Claim7 := { stood := { row := procNewsUptoRow, standIns := [], harness := (true, "07299f55a087af88df34ed9a8441cfe5fb09456fd8a7df49fd7daa28008819c9"), looks := false }, kinds := [], alts := [], laidByText := true, laidKinds := [.data, .pinned], laidTests := true, laidLooks := .later }
def ProcNewsUptoCardSaid : Prop := Claim7.holds Tryd.pinned (.plain (OpenSpec.upto procNewsSpec)) procNewsUptoCard

/-- THE SECOND FORM's CARD OF 'filespacelaw30.ProcRight'. -/
def procRightUptoCard : Claim7 := { stood := { row := procRightUptoRow, standIns := [], harness := (true, "07299f55a087af88df34ed9a8441cfe5fb09456fd8a7df49fd7daa28008819c9"), looks := false }, kinds := [], alts := [], laidByText := true, laidKinds := [.data, .pinned], laidTests := true, laidLooks := .later }
def ProcRightUptoCardSaid : Prop := Claim7.holds Tryd.pinned (.plain (OpenSpec.upto procRightSpec)) procRightUptoCard

/-- THE SECOND FORM's CARD OF 'filespacelaw30.ProcWaits'. -/
def procWaitsUptoCard : Claim7 := { stood := { row := procWaitsUptoRow, standIns := [], harness := (true, "07299f55a087af88df34ed9a8441cfe5fb09456fd8a7df49fd7daa28008819c9"), looks := false }, kinds := [], alts := [], laidByText := true, laidKinds := [.data, .pinned], laidTests := true, laidLooks := .later }
def ProcWaitsUptoCardSaid : Prop := Claim7.holds Tryd.pinned (.plain (OpenSpec.upto procWaitsSpec)) procWaitsUptoCard

/-- THE SECOND FORM's CARD OF 'filespacelaw30.ProcGroups'. -/
def procGroupsUptoCard : Claim7 := { stood := { row := procGroupsUptoRow, standIns := [], harness := (true, "07299f55a087af88df34ed9a8441cfe5fb09456fd8a7df49fd7daa28008819c9"), looks := false }, kinds := [], alts := [], laidByText := true, laidKinds := [.data, .pinned], laidTests := true, laidLooks := .later }
def ProcGroupsUptoCardSaid : Prop := Claim7.holds Tryd.pinned (.plain (OpenSpec.upto procGroupsSpec)) procGroupsUptoCard

/-- THE SECOND FORM's CARD OF 'filespacelaw30.ProcCalls'. -/
def procCallsUptoCard : Claim7 := { stood := { row := procCallsUptoRow, standIns := [], harness := (true, "07299f55a087af88df34ed9a8441cfe5fb09456fd8a7df49fd7daa28008819c9"), looks := false }, kinds := [], alts := [], laidByText := true, laidKinds := [.data, .pinned], laidTests := true, laidLooks := .later }
def ProcCallsUptoCardSaid : Prop := Claim7.holds Tryd.pinned (.plain (OpenSpec.upto procCallsSpec)) procCallsUptoCard
end Rows
end Go.Proofs.YtfaobpifaobobaaDoor
