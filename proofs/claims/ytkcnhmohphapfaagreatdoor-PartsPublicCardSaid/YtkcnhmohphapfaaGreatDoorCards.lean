/-
  DERIVED. GIVEN WITH THE SEED: THE CARDS: each row of YtkcnhmohphapfaaGreatDoorRows.lean that lists a variable, with what it lists TIED to the program's text (the seventh form; the later family's looks); each row that meets fmt, with fmt's text TOLD by the authors' own Lean function (tested against real Go, not proved from fmt's source: count such statements apart). THE CARD IS WHAT COUNTS. Prove the row's statement (the work); the ties are given (YtkcnhmohphapfaaGreatDoorTie.lean); close each card by the builder's one call (the guide's Derived/Test/ToyasCard.lean, 'card_holds'). Laid BY PROGRAM, IN A SANDBOX (cutbox-door.mjs). By AI agents, Wed Nov 11 2026. No macro, syntax, notation, axiom, sorry.
-/
import Derived.Test.YtkcnhmohphapfaaGreatDoorRows
import GoSem.ClaimSeven
namespace Go.Proofs.YtkcnhmohphapfaaGreatDoor
namespace Rows

/-- THE TIED CARD OF 'filespacetop.PartsPublic'. -/
def partsPublicCard : Claim7 := { stood := { row := partsPublicRow, standIns := [], harness := (true, "b09cf1fb51cd0a539907fca64703852554a0b7fcc65e0d0bd16b7e6b8a4222ca"), looks := true }, kinds := [], alts := [], laidByText := true, laidKinds := [.data, .data, .data, .data, .sentinel, .sentinel, .data, .pinned], laidTests := true, laidLooks := .later }
def PartsPublicCardSaid : Prop := Claim7.holds Tryz.pinned (.plain (OpenSpec.ofChange partsPublicSpec)) partsPublicCard

/-- THE SECOND FORM's CARD OF 'filespacetop.PartsPublic'. -/
def partsPublicUptoCard : Claim7 := { stood := { row := partsPublicUptoRow, standIns := [], harness := (true, "b09cf1fb51cd0a539907fca64703852554a0b7fcc65e0d0bd16b7e6b8a4222ca"), looks := true }, kinds := [], alts := [], laidByText := true, laidKinds := [.data, .data, .data, .data, .sentinel, .sentinel, .data, .pinned], laidTests := true, laidLooks := .later }
def PartsPublicUptoCardSaid : Prop := Claim7.holds Tryz.pinned (.plain (OpenSpec.upto partsPublicSpec)) partsPublicUptoCard
end Rows
end Go.Proofs.YtkcnhmohphapfaaGreatDoor
