/-
  DERIVED. GIVEN WITH THE SEED: THE CARDS: each row of YtgmlbldjdhonjaaDoorRows.lean that lists a variable, with what it lists TIED to the program's text (the seventh form; the later family's looks); each row that meets fmt, with fmt's text TOLD by the authors' own Lean function (tested against real Go, not proved from fmt's source: count such statements apart). THE CARD IS WHAT COUNTS. Prove the row's statement (the work); the ties are given (YtgmlbldjdhonjaaDoorTie.lean); close each card by the builder's one call (the guide's Derived/Test/ToyasCard.lean, 'card_holds'). Laid BY PROGRAM, IN A SANDBOX (cutbox-door.mjs). By AI agents, Wed Nov 11 2026. No macro, syntax, notation, axiom, sorry.
-/
import Derived.Test.YtgmlbldjdhonjaaDoorRows
import GoSem.ClaimSeven
namespace Go.Proofs.YtgmlbldjdhonjaaDoor
namespace Rows

/-- THE TIED CARD OF 'filespacelaw31.ProcfsOpens'. -/
def procfsOpensCard : Claim7 := { stood := { row := procfsOpensRow, standIns := [], harness := (true, "a77384a6b3346e8bd7ee3225de6733eeeaa96f6307da075c5312184ebe7002cd"), looks := false }, kinds := [], alts := [], laidByText := true, laidKinds := [.data, .data, .data], laidTests := true, laidLooks := .later }
def ProcfsOpensCardSaid : Prop := Claim7.holds Tryd.pinned (.plain (OpenSpec.ofChange procfsOpensSpec)) procfsOpensCard

/-- THE TIED CARD OF 'filespacelaw31.ProcfsStatus'. -/
def procfsStatusCard : Claim7 := { stood := { row := procfsStatusRow, standIns := [], harness := (true, "a77384a6b3346e8bd7ee3225de6733eeeaa96f6307da075c5312184ebe7002cd"), looks := false }, kinds := [], alts := [], laidByText := true, laidKinds := [.data, .data, .data], laidTests := true, laidLooks := .later }
def ProcfsStatusCardSaid : Prop := Claim7.holds Tryd.pinned (.plain (OpenSpec.ofChange procfsStatusSpec)) procfsStatusCard

/-- THE TIED CARD OF 'filespacelaw31.ProcfsReads'. -/
def procfsReadsCard : Claim7 := { stood := { row := procfsReadsRow, standIns := [], harness := (true, "a77384a6b3346e8bd7ee3225de6733eeeaa96f6307da075c5312184ebe7002cd"), looks := false }, kinds := [], alts := [], laidByText := true, laidKinds := [.data, .data, .data], laidTests := true, laidLooks := .later }
def ProcfsReadsCardSaid : Prop := Claim7.holds Tryd.pinned (.plain (OpenSpec.ofChange procfsReadsSpec)) procfsReadsCard

/-- THE TIED CARD OF 'filespacelaw31.ProcfsOwner'. -/
def procfsOwnerCard : Claim7 := { stood := { row := procfsOwnerRow, standIns := [], harness := (true, "a77384a6b3346e8bd7ee3225de6733eeeaa96f6307da075c5312184ebe7002cd"), looks := false }, kinds := [], alts := [], laidByText := true, laidKinds := [.data, .data, .data], laidTests := true, laidLooks := .later }
def ProcfsOwnerCardSaid : Prop := Claim7.holds Tryd.pinned (.plain (OpenSpec.ofChange procfsOwnerSpec)) procfsOwnerCard

/-- THE TIED CARD OF 'filespacelaw31.ProcfsBlocks'. -/
def procfsBlocksCard : Claim7 := { stood := { row := procfsBlocksRow, standIns := [], harness := (true, "a77384a6b3346e8bd7ee3225de6733eeeaa96f6307da075c5312184ebe7002cd"), looks := false }, kinds := [], alts := [], laidByText := true, laidKinds := [.data, .data, .data], laidTests := true, laidLooks := .later }
def ProcfsBlocksCardSaid : Prop := Claim7.holds Tryd.pinned (.plain (OpenSpec.ofChange procfsBlocksSpec)) procfsBlocksCard

/-- THE SECOND FORM's CARD OF 'filespacelaw31.ProcfsOpens'. -/
def procfsOpensUptoCard : Claim7 := { stood := { row := procfsOpensUptoRow, standIns := [], harness := (true, "a77384a6b3346e8bd7ee3225de6733eeeaa96f6307da075c5312184ebe7002cd"), looks := false }, kinds := [], alts := [], laidByText := true, laidKinds := [.data, .data, .data], laidTests := true, laidLooks := .later }
def ProcfsOpensUptoCardSaid : Prop := Claim7.holds Tryd.pinned (.plain (OpenSpec.upto procfsOpensSpec)) procfsOpensUptoCard

/-- THE SECOND FORM's CARD OF 'filespacelaw31.ProcfsStatus'. -/
def procfsStatusUptoCard : Claim7 := { stood := { row := procfsStatusUptoRow, standIns := [], harness := (true, "a77384a6b3346e8bd7ee3225de6733eeeaa96f6307da075c5312184ebe7002cd"), looks := false }, kinds := [], alts := [], laidByText := true, laidKinds := [.data, .data, .data], laidTests := true, laidLooks := .later }
def ProcfsStatusUptoCardSaid : Prop := Claim7.holds Tryd.pinned (.plain (OpenSpec.upto procfsStatusSpec)) procfsStatusUptoCard

/-- THE SECOND FORM's CARD OF 'filespacelaw31.ProcfsReads'. -/
def procfsReadsUptoCard : Claim7 := { stood := { row := procfsReadsUptoRow, standIns := [], harness := (true, "a77384a6b3346e8bd7ee3225de6733eeeaa96f6307da075c5312184ebe7002cd"), looks := false }, kinds := [], alts := [], laidByText := true, laidKinds := [.data, .data, .data], laidTests := true, laidLooks := .later }
def ProcfsReadsUptoCardSaid : Prop := Claim7.holds Tryd.pinned (.plain (OpenSpec.upto procfsReadsSpec)) procfsReadsUptoCard

/-- THE SECOND FORM's CARD OF 'filespacelaw31.ProcfsOwner'. -/
def procfsOwnerUptoCard : Claim7 := { stood := { row := procfsOwnerUptoRow, standIns := [], harness := (true, "a77384a6b3346e8bd7ee3225de6733eeeaa96f6307da075c5312184ebe7002cd"), looks := false }, kinds := [], alts := [], laidByText := true, laidKinds := [.data, .data, .data], laidTests := true, laidLooks := .later }
def ProcfsOwnerUptoCardSaid : Prop := Claim7.holds Tryd.pinned (.plain (OpenSpec.upto procfsOwnerSpec)) procfsOwnerUptoCard

/-- THE SECOND FORM's CARD OF 'filespacelaw31.ProcfsBlocks'. -/
def procfsBlocksUptoCard : Claim7 := { stood := { row := procfsBlocksUptoRow, standIns := [], harness := (true, "a77384a6b3346e8bd7ee3225de6733eeeaa96f6307da075c5312184ebe7002cd"), looks := false }, kinds := [], alts := [], laidByText := true, laidKinds := [.data, .data, .data], laidTests := true, laidLooks := .later }
def ProcfsBlocksUptoCardSaid : Prop := Claim7.holds Tryd.pinned (.plain (OpenSpec.upto procfsBlocksSpec)) procfsBlocksUptoCard
end Rows
end Go.Proofs.YtgmlbldjdhonjaaDoor
