/-
  DERIVED. GIVEN WITH THE SEED: THE CARDS: each row of YtchaaedlfibdoaaGreatDoorRows.lean that lists a variable, with what it lists TIED to the program's text (the seventh form; the later family's looks); each row that meets fmt, with fmt's text TOLD by the authors' own Lean function (tested against real Go, not proved from fmt's source: count such statements apart). THE CARD IS WHAT COUNTS. Prove the row's statement (the work); the ties are given (YtchaaedlfibdoaaGreatDoorTie.lean); close each card by the builder's one call (the guide's Derived/Test/ToyasCard.lean, 'card_holds'). Laid BY PROGRAM, IN A SANDBOX (cutbox-door.mjs). By AI agents, Wed Nov 11 2026. No macro, syntax, notation, axiom, sorry.
-/
import Derived.Test.YtchaaedlfibdoaaGreatDoorRows
import GoSem.ClaimSeven
namespace Go.Proofs.YtchaaedlfibdoaaGreatDoor
namespace Rows

/-- THE TIED CARD OF 'filespacetop.PartsLog'. -/
def partsLogCard : Claim7 := { stood := { row := partsLogRow, standIns := [], harness := (true, "e47e5408c9facb298df1648cbe8ea2c85134be73f98618d8462d857805b20fd5"), looks := true }, kinds := [], alts := [], laidByText := true, laidKinds := [.data, .data, .data, .data, .sentinel, .sentinel, .data, .pinned], laidTests := true, laidLooks := .later }
def PartsLogCardSaid : Prop := Claim7.holds Tryz.pinned (.plain (OpenSpec.ofChange partsLogSpec)) partsLogCard

/-- THE SECOND FORM's CARD OF 'filespacetop.PartsLog'. -/
def partsLogUptoCard : Claim7 := { stood := { row := partsLogUptoRow, standIns := [], harness := (true, "e47e5408c9facb298df1648cbe8ea2c85134be73f98618d8462d857805b20fd5"), looks := true }, kinds := [], alts := [], laidByText := true, laidKinds := [.data, .data, .data, .data, .sentinel, .sentinel, .data, .pinned], laidTests := true, laidLooks := .later }
def PartsLogUptoCardSaid : Prop := Claim7.holds Tryz.pinned (.plain (OpenSpec.upto partsLogSpec)) partsLogUptoCard
end Rows
end Go.Proofs.YtchaaedlfibdoaaGreatDoor
