/-
  DERIVED. GIVEN WITH THE SEED: THE CARDS: each row of YtofpfpkjdigabaaGreatDoorRows.lean that lists a variable, with what it lists TIED to the program's text (the seventh form; the later family's looks); each row that meets fmt, with fmt's text TOLD by the authors' own Lean function (tested against real Go, not proved from fmt's source: count such statements apart). THE CARD IS WHAT COUNTS. Prove the row's statement (the work); the ties are given (YtofpfpkjdigabaaGreatDoorTie.lean); close each card by the builder's one call (the guide's Derived/Test/ToyasCard.lean, 'card_holds'). Laid BY PROGRAM, IN A SANDBOX (cutbox-door.mjs). By AI agents, Wed Nov 11 2026. No macro, syntax, notation, axiom, sorry.
-/
import Derived.Test.YtofpfpkjdigabaaGreatDoorRows
import GoSem.ClaimSeven
namespace Go.Proofs.YtofpfpkjdigabaaGreatDoor
namespace Rows

/-- THE TIED CARD OF 'filespacelaw28.NetfsRight'. -/
def netfsRightCard : Claim7 := { stood := { row := netfsRightRow, standIns := [], harness := (true, "552fa2cde525d50f4b2be67565ea3e8bffb97ebbe426572e009847aa469b343e"), looks := false }, kinds := [], alts := [], laidByText := true, laidKinds := [.data, .data, .data, .data, .pinned], laidTests := true, laidLooks := .later }
def NetfsRightCardSaid : Prop := Claim7.holds Tryz.pinned (.plain (OpenSpec.ofChange netfsRightSpec)) netfsRightCard

/-- THE TIED CARD OF 'filespacelaw28.NetfsStreams'. -/
def netfsStreamsCard : Claim7 := { stood := { row := netfsStreamsRow, standIns := [], harness := (true, "552fa2cde525d50f4b2be67565ea3e8bffb97ebbe426572e009847aa469b343e"), looks := false }, kinds := [], alts := [], laidByText := true, laidKinds := [.data, .data, .data, .data, .pinned], laidTests := true, laidLooks := .later }
def NetfsStreamsCardSaid : Prop := Claim7.holds Tryz.pinned (.plain (OpenSpec.ofChange netfsStreamsSpec)) netfsStreamsCard

/-- THE TIED CARD OF 'filespacelaw28.NetfsPlays'. -/
def netfsPlaysCard : Claim7 := { stood := { row := netfsPlaysRow, standIns := [], harness := (true, "552fa2cde525d50f4b2be67565ea3e8bffb97ebbe426572e009847aa469b343e"), looks := false }, kinds := [], alts := [], laidByText := true, laidKinds := [.data, .data, .data, .data, .pinned], laidTests := true, laidLooks := .later }
def NetfsPlaysCardSaid : Prop := Claim7.holds Tryz.pinned (.plain (OpenSpec.ofChange netfsPlaysSpec)) netfsPlaysCard

/-- THE TIED CARD OF 'filespacelaw28.NetfsBlocks'. -/
def netfsBlocksCard : Claim7 := { stood := { row := netfsBlocksRow, standIns := [], harness := (true, "552fa2cde525d50f4b2be67565ea3e8bffb97ebbe426572e009847aa469b343e"), looks := false }, kinds := [], alts := [], laidByText := true, laidKinds := [.data, .data, .data, .data, .pinned], laidTests := true, laidLooks := .later }
def NetfsBlocksCardSaid : Prop := Claim7.holds Tryz.pinned (.plain (OpenSpec.ofChange netfsBlocksSpec)) netfsBlocksCard

/-- THE TIED CARD OF 'filespacelaw28.NetfsHosts'. -/
def netfsHostsCard : Claim7 := { stood := { row := netfsHostsRow, standIns := [], harness := (true, "552fa2cde525d50f4b2be67565ea3e8bffb97ebbe426572e009847aa469b343e"), looks := false }, kinds := [], alts := [], laidByText := true, laidKinds := [.data, .data, .data, .data, .pinned], laidTests := true, laidLooks := .later }
def NetfsHostsCardSaid : Prop := Claim7.holds Tryz.pinned (.plain (OpenSpec.ofChange netfsHostsSpec)) netfsHostsCard

/-- THE TIED CARD OF 'filespacelaw28.NetfsReads'. -/
def netfsReadsCard : Claim7 := { stood := { row := netfsReadsRow, standIns := [], harness := (true, "552fa2cde525d50f4b2be67565ea3e8bffb97ebbe426572e009847aa469b343e"), looks := false }, kinds := [], alts := [], laidByText := true, laidKinds := [.data, .data, .data, .data, .pinned], laidTests := true, laidLooks := .later }
def NetfsReadsCardSaid : Prop := Claim7.holds Tryz.pinned (.plain (OpenSpec.ofChange netfsReadsSpec)) netfsReadsCard

/-- THE SECOND FORM's CARD OF 'filespacelaw28.NetfsRight'. -/
def netfsRightUptoCard : Claim7 := { stood := { row := netfsRightUptoRow, standIns := [], harness := (true, "552fa2cde525d50f4b2be67565ea3e8bffb97ebbe426572e009847aa469b343e"), looks := false }, kinds := [], alts := [], laidByText := true, laidKinds := [.data, .data, .data, .data, .pinned], laidTests := true, laidLooks := .later }
def NetfsRightUptoCardSaid : Prop := Claim7.holds Tryz.pinned (.plain (OpenSpec.upto netfsRightSpec)) netfsRightUptoCard

/-- THE SECOND FORM's CARD OF 'filespacelaw28.NetfsStreams'. -/
def netfsStreamsUptoCard : Claim7 := { stood := { row := netfsStreamsUptoRow, standIns := [], harness := (true, "552fa2cde525d50f4b2be67565ea3e8bffb97ebbe426572e009847aa469b343e"), looks := false }, kinds := [], alts := [], laidByText := true, laidKinds := [.data, .data, .data, .data, .pinned], laidTests := true, laidLooks := .later }
def NetfsStreamsUptoCardSaid : Prop := Claim7.holds Tryz.pinned (.plain (OpenSpec.upto netfsStreamsSpec)) netfsStreamsUptoCard

/-- THE SECOND FORM's CARD OF 'filespacelaw28.NetfsPlays'. -/
def netfsPlaysUptoCard : Claim7 := { stood := { row := netfsPlaysUptoRow, standIns := [], harness := (true, "552fa2cde525d50f4b2be67565ea3e8bffb97ebbe426572e009847aa469b343e"), looks := false }, kinds := [], alts := [], laidByText := true, laidKinds := [.data, .data, .data, .data, .pinned], laidTests := true, laidLooks := .later }
def NetfsPlaysUptoCardSaid : Prop := Claim7.holds Tryz.pinned (.plain (OpenSpec.upto netfsPlaysSpec)) netfsPlaysUptoCard

/-- THE SECOND FORM's CARD OF 'filespacelaw28.NetfsBlocks'. -/
def netfsBlocksUptoCard : Claim7 := { stood := { row := netfsBlocksUptoRow, standIns := [], harness := (true, "552fa2cde525d50f4b2be67565ea3e8bffb97ebbe426572e009847aa469b343e"), looks := false }, kinds := [], alts := [], laidByText := true, laidKinds := [.data, .data, .data, .data, .pinned], laidTests := true, laidLooks := .later }
def NetfsBlocksUptoCardSaid : Prop := Claim7.holds Tryz.pinned (.plain (OpenSpec.upto netfsBlocksSpec)) netfsBlocksUptoCard

/-- THE SECOND FORM's CARD OF 'filespacelaw28.NetfsHosts'. -/
def netfsHostsUptoCard : Claim7 := { stood := { row := netfsHostsUptoRow, standIns := [], harness := (true, "552fa2cde525d50f4b2be67565ea3e8bffb97ebbe426572e009847aa469b343e"), looks := false }, kinds := [], alts := [], laidByText := true, laidKinds := [.data, .data, .data, .data, .pinned], laidTests := true, laidLooks := .later }
def NetfsHostsUptoCardSaid : Prop := Claim7.holds Tryz.pinned (.plain (OpenSpec.upto netfsHostsSpec)) netfsHostsUptoCard

/-- THE SECOND FORM's CARD OF 'filespacelaw28.NetfsReads'. -/
def netfsReadsUptoCard : Claim7 := { stood := { row := netfsReadsUptoRow, standIns := [], harness := (true, "552fa2cde525d50f4b2be67565ea3e8bffb97ebbe426572e009847aa469b343e"), looks := false }, kinds := [], alts := [], laidByText := true, laidKinds := [.data, .data, .data, .data, .pinned], laidTests := true, laidLooks := .later }
def NetfsReadsUptoCardSaid : Prop := Claim7.holds Tryz.pinned (.plain (OpenSpec.upto netfsReadsSpec)) netfsReadsUptoCard
end Rows
end Go.Proofs.YtofpfpkjdigabaaGreatDoor
