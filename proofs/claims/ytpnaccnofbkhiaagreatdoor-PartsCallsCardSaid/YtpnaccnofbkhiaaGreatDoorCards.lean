/-
  DERIVED. GIVEN WITH THE SEED: THE CARDS: each row of YtpnaccnofbkhiaaGreatDoorRows.lean that lists a variable, with what it lists TIED to the program's text (the seventh form; the later family's looks); each row that meets fmt, with fmt's text TOLD by the authors' own Lean function (tested against real Go, not proved from fmt's source: count such statements apart). THE CARD IS WHAT COUNTS. Prove the row's statement (the work); the ties are given (YtpnaccnofbkhiaaGreatDoorTie.lean); close each card by the builder's one call (the guide's Derived/Test/ToyasCard.lean, 'card_holds'). Laid BY PROGRAM, IN A SANDBOX (cutbox-door.mjs). By AI agents, Wed Nov 11 2026. No macro, syntax, notation, axiom, sorry.
-/
import Derived.Test.YtpnaccnofbkhiaaGreatDoorRows
import GoSem.ClaimSeven
namespace Go.Proofs.YtpnaccnofbkhiaaGreatDoor
namespace Rows

/-- THE TIED CARD OF 'filespacetop.PartsCalls'. -/
def partsCallsCard : Claim7 := { stood := { row := partsCallsRow, standIns := [], harness := (true, "cc80e5afedf05c992f1b66cb177bb28404d93e0b00584c8547068a5a614250ce"), looks := true }, kinds := [], alts := [], laidByText := true, laidKinds := [.data, .data, .data, .data, .sentinel, .sentinel, .pinned], laidTests := true, laidLooks := .later }
def PartsCallsCardSaid : Prop := Claim7.holds Tryz.pinned (.plain (OpenSpec.ofChange partsCallsSpec)) partsCallsCard

/-- THE SECOND FORM's CARD OF 'filespacetop.PartsCalls'. -/
def partsCallsUptoCard : Claim7 := { stood := { row := partsCallsUptoRow, standIns := [], harness := (true, "cc80e5afedf05c992f1b66cb177bb28404d93e0b00584c8547068a5a614250ce"), looks := true }, kinds := [], alts := [], laidByText := true, laidKinds := [.data, .data, .data, .data, .sentinel, .sentinel, .pinned], laidTests := true, laidLooks := .later }
def PartsCallsUptoCardSaid : Prop := Claim7.holds Tryz.pinned (.plain (OpenSpec.upto partsCallsSpec)) partsCallsUptoCard
end Rows
end Go.Proofs.YtpnaccnofbkhiaaGreatDoor
