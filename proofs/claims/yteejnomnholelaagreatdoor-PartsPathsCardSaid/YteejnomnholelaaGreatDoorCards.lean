/-
  DERIVED. GIVEN WITH THE SEED: THE CARDS: each row of YteejnomnholelaaGreatDoorRows.lean that lists a variable, with what it lists TIED to the program's text (the seventh form; the later family's looks); each row that meets fmt, with fmt's text TOLD by the authors' own Lean function (tested against real Go, not proved from fmt's source: count such statements apart). THE CARD IS WHAT COUNTS. Prove the row's statement (the work); the ties are given (YteejnomnholelaaGreatDoorTie.lean); close each card by the builder's one call (the guide's Derived/Test/ToyasCard.lean, 'card_holds'). Laid BY PROGRAM, IN A SANDBOX (cutbox-door.mjs). By AI agents, Wed Nov 11 2026. No macro, syntax, notation, axiom, sorry.
-/
import Derived.Test.YteejnomnholelaaGreatDoorRows
import GoSem.ClaimSeven
namespace Go.Proofs.YteejnomnholelaaGreatDoor
namespace Rows

/-- THE TIED CARD OF 'filespacetop.PartsPaths'. -/
def partsPathsCard : Claim7 := { stood := { row := partsPathsRow, standIns := [], harness := (true, "ba4e7b8cf36c1ee7a7774c56fe01f165471af609196c6b576cc1462ceb198bd0"), looks := true }, kinds := [], alts := [], laidByText := true, laidKinds := [.data, .data, .data, .data, .sentinel, .sentinel, .data, .pinned], laidTests := true, laidLooks := .later }
def PartsPathsCardSaid : Prop := Claim7.holds Tryz.pinned (.plain (OpenSpec.ofChange partsPathsSpec)) partsPathsCard

/-- THE SECOND FORM's CARD OF 'filespacetop.PartsPaths'. -/
def partsPathsUptoCard : Claim7 := { stood := { row := partsPathsUptoRow, standIns := [], harness := (true, "ba4e7b8cf36c1ee7a7774c56fe01f165471af609196c6b576cc1462ceb198bd0"), looks := true }, kinds := [], alts := [], laidByText := true, laidKinds := [.data, .data, .data, .data, .sentinel, .sentinel, .data, .pinned], laidTests := true, laidLooks := .later }
def PartsPathsUptoCardSaid : Prop := Claim7.holds Tryz.pinned (.plain (OpenSpec.upto partsPathsSpec)) partsPathsUptoCard
end Rows
end Go.Proofs.YteejnomnholelaaGreatDoor
