/-
  DERIVED. GIVEN WITH THE SEED: THE CARDS: each row of YtgmlbldjdhonjaaGreatDoorRows.lean that lists a variable, with what it lists TIED to the program's text (the seventh form; the later family's looks); each row that meets fmt, with fmt's text TOLD by the authors' own Lean function (tested against real Go, not proved from fmt's source: count such statements apart). THE CARD IS WHAT COUNTS. Prove the row's statement (the work); the ties are given (YtgmlbldjdhonjaaGreatDoorTie.lean); close each card by the builder's one call (the guide's Derived/Test/ToyasCard.lean, 'card_holds'). Laid BY PROGRAM, IN A SANDBOX (cutbox-door.mjs). By AI agents, Wed Nov 11 2026. No macro, syntax, notation, axiom, sorry.
-/
import Derived.Test.YtgmlbldjdhonjaaGreatDoorRows
import GoSem.ClaimSeven
namespace Go.Proofs.YtgmlbldjdhonjaaGreatDoor
namespace Rows

/-- THE TIED CARD OF 'filespacelaw31.ProcfsCalls'. -/
def procfsCallsCard : Claim7 := { stood := { row := procfsCallsRow, standIns := [], harness := (true, "7e819da5f7185b5f72c8cc52bfc99e17f4568dbcd6038cd702e439ba61d278c4"), looks := false }, kinds := [], alts := [], laidByText := true, laidKinds := [.data, .data, .data, .data, .pinned], laidTests := true, laidLooks := .later }
def ProcfsCallsCardSaid : Prop := Claim7.holds Tryz.pinned (.plain (OpenSpec.ofChange procfsCallsSpec)) procfsCallsCard

/-- THE SECOND FORM's CARD OF 'filespacelaw31.ProcfsCalls'. -/
def procfsCallsUptoCard : Claim7 := { stood := { row := procfsCallsUptoRow, standIns := [], harness := (true, "7e819da5f7185b5f72c8cc52bfc99e17f4568dbcd6038cd702e439ba61d278c4"), looks := false }, kinds := [], alts := [], laidByText := true, laidKinds := [.data, .data, .data, .data, .pinned], laidTests := true, laidLooks := .later }
def ProcfsCallsUptoCardSaid : Prop := Claim7.holds Tryz.pinned (.plain (OpenSpec.upto procfsCallsSpec)) procfsCallsUptoCard
end Rows
end Go.Proofs.YtgmlbldjdhonjaaGreatDoor
