/-
  DERIVED. GIVEN WITH THE SEED: THE CARDS: each row of YtiliognepodhnaaGreatDoorRows.lean that lists a variable, with what it lists TIED to the program's text (the seventh form; the later family's looks); each row that meets fmt, with fmt's text TOLD by the authors' own Lean function (tested against real Go, not proved from fmt's source: count such statements apart). THE CARD IS WHAT COUNTS. Prove the row's statement (the work); the ties are given (YtiliognepodhnaaGreatDoorTie.lean); close each card by the builder's one call (the guide's Derived/Test/ToyasCard.lean, 'card_holds'). Laid BY PROGRAM, IN A SANDBOX (cutbox-door.mjs). By AI agents, Wed Nov 11 2026. No macro, syntax, notation, axiom, sorry.
-/
import Derived.Test.YtiliognepodhnaaGreatDoorRows
import GoSem.ClaimSeven
namespace Go.Proofs.YtiliognepodhnaaGreatDoor
namespace Rows

/-- THE TIED CARD OF 'filespacelaw26.AgentCalls'. -/
def agentCallsCard : Claim7 := { stood := { row := agentCallsRow, standIns := [], harness := (true, "6ea8b1c7e4f4557aa858aff885871cd972c38d8ec5bd7271d598164dbb29a31c"), looks := false }, kinds := [], alts := [], laidByText := true, laidKinds := [.data, .data, .data, .data, .data, .pinned], laidTests := true, laidLooks := .later }
def AgentCallsCardSaid : Prop := Claim7.holds Tryz.pinned (.plain (OpenSpec.ofChange agentCallsSpec)) agentCallsCard

/-- THE TIED CARD OF 'filespacelaw26.AgentReads'. -/
def agentReadsCard : Claim7 := { stood := { row := agentReadsRow, standIns := [], harness := (true, "6ea8b1c7e4f4557aa858aff885871cd972c38d8ec5bd7271d598164dbb29a31c"), looks := false }, kinds := [], alts := [], laidByText := true, laidKinds := [.data, .data, .data, .data, .data, .pinned], laidTests := true, laidLooks := .later }
def AgentReadsCardSaid : Prop := Claim7.holds Tryz.pinned (.plain (OpenSpec.ofChange agentReadsSpec)) agentReadsCard

/-- THE TIED CARD OF 'filespacelaw26.AgentKeeps'. -/
def agentKeepsCard : Claim7 := { stood := { row := agentKeepsRow, standIns := [], harness := (true, "6ea8b1c7e4f4557aa858aff885871cd972c38d8ec5bd7271d598164dbb29a31c"), looks := false }, kinds := [], alts := [], laidByText := true, laidKinds := [.data, .data, .data, .data, .data, .pinned], laidTests := true, laidLooks := .later }
def AgentKeepsCardSaid : Prop := Claim7.holds Tryz.pinned (.plain (OpenSpec.ofChange agentKeepsSpec)) agentKeepsCard

/-- THE TIED CARD OF 'filespacelaw26.AgentTalks'. -/
def agentTalksCard : Claim7 := { stood := { row := agentTalksRow, standIns := [], harness := (true, "6ea8b1c7e4f4557aa858aff885871cd972c38d8ec5bd7271d598164dbb29a31c"), looks := false }, kinds := [], alts := [], laidByText := true, laidKinds := [.data, .data, .data, .data, .data, .pinned], laidTests := true, laidLooks := .later }
def AgentTalksCardSaid : Prop := Claim7.holds Tryz.pinned (.plain (OpenSpec.ofChange agentTalksSpec)) agentTalksCard

/-- THE TIED CARD OF 'filespacelaw26.AgentFiles'. -/
def agentFilesCard : Claim7 := { stood := { row := agentFilesRow, standIns := [], harness := (true, "6ea8b1c7e4f4557aa858aff885871cd972c38d8ec5bd7271d598164dbb29a31c"), looks := false }, kinds := [], alts := [], laidByText := true, laidKinds := [.data, .data, .data, .data, .data, .pinned], laidTests := true, laidLooks := .later }
def AgentFilesCardSaid : Prop := Claim7.holds Tryz.pinned (.plain (OpenSpec.ofChange agentFilesSpec)) agentFilesCard

/-- THE TIED CARD OF 'filespacelaw26.AgentHides'. -/
def agentHidesCard : Claim7 := { stood := { row := agentHidesRow, standIns := [], harness := (true, "6ea8b1c7e4f4557aa858aff885871cd972c38d8ec5bd7271d598164dbb29a31c"), looks := false }, kinds := [], alts := [], laidByText := true, laidKinds := [.data, .data, .data, .data, .data, .pinned], laidTests := true, laidLooks := .later }
def AgentHidesCardSaid : Prop := Claim7.holds Tryz.pinned (.plain (OpenSpec.ofChange agentHidesSpec)) agentHidesCard

/-- THE SECOND FORM's CARD OF 'filespacelaw26.AgentCalls'. -/
def agentCallsUptoCard : Claim7 := { stood := { row := agentCallsUptoRow, standIns := [], harness := (true, "6ea8b1c7e4f4557aa858aff885871cd972c38d8ec5bd7271d598164dbb29a31c"), looks := false }, kinds := [], alts := [], laidByText := true, laidKinds := [.data, .data, .data, .data, .data, .pinned], laidTests := true, laidLooks := .later }
def AgentCallsUptoCardSaid : Prop := Claim7.holds Tryz.pinned (.plain (OpenSpec.upto agentCallsSpec)) agentCallsUptoCard

/-- THE SECOND FORM's CARD OF 'filespacelaw26.AgentReads'. -/
def agentReadsUptoCard : Claim7 := { stood := { row := agentReadsUptoRow, standIns := [], harness := (true, "6ea8b1c7e4f4557aa858aff885871cd972c38d8ec5bd7271d598164dbb29a31c"), looks := false }, kinds := [], alts := [], laidByText := true, laidKinds := [.data, .data, .data, .data, .data, .pinned], laidTests := true, laidLooks := .later }
def AgentReadsUptoCardSaid : Prop := Claim7.holds Tryz.pinned (.plain (OpenSpec.upto agentReadsSpec)) agentReadsUptoCard

/-- THE SECOND FORM's CARD OF 'filespacelaw26.AgentKeeps'. -/
def agentKeepsUptoCard : Claim7 := { stood := { row := agentKeepsUptoRow, standIns := [], harness := (true, "6ea8b1c7e4f4557aa858aff885871cd972c38d8ec5bd7271d598164dbb29a31c"), looks := false }, kinds := [], alts := [], laidByText := true, laidKinds := [.data, .data, .data, .data, .data, .pinned], laidTests := true, laidLooks := .later }
def AgentKeepsUptoCardSaid : Prop := Claim7.holds Tryz.pinned (.plain (OpenSpec.upto agentKeepsSpec)) agentKeepsUptoCard

/-- THE SECOND FORM's CARD OF 'filespacelaw26.AgentTalks'. -/
def agentTalksUptoCard : Claim7 := { stood := { row := agentTalksUptoRow, standIns := [], harness := (true, "6ea8b1c7e4f4557aa858aff885871cd972c38d8ec5bd7271d598164dbb29a31c"), looks := false }, kinds := [], alts := [], laidByText := true, laidKinds := [.data, .data, .data, .data, .data, .pinned], laidTests := true, laidLooks := .later }
def AgentTalksUptoCardSaid : Prop := Claim7.holds Tryz.pinned (.plain (OpenSpec.upto agentTalksSpec)) agentTalksUptoCard

/-- THE SECOND FORM's CARD OF 'filespacelaw26.AgentFiles'. -/
def agentFilesUptoCard : Claim7 := { stood := { row := agentFilesUptoRow, standIns := [], harness := (true, "6ea8b1c7e4f4557aa858aff885871cd972c38d8ec5bd7271d598164dbb29a31c"), looks := false }, kinds := [], alts := [], laidByText := true, laidKinds := [.data, .data, .data, .data, .data, .pinned], laidTests := true, laidLooks := .later }
def AgentFilesUptoCardSaid : Prop := Claim7.holds Tryz.pinned (.plain (OpenSpec.upto agentFilesSpec)) agentFilesUptoCard

/-- THE SECOND FORM's CARD OF 'filespacelaw26.AgentHides'. -/
def agentHidesUptoCard : Claim7 := { stood := { row := agentHidesUptoRow, standIns := [], harness := (true, "6ea8b1c7e4f4557aa858aff885871cd972c38d8ec5bd7271d598164dbb29a31c"), looks := false }, kinds := [], alts := [], laidByText := true, laidKinds := [.data, .data, .data, .data, .data, .pinned], laidTests := true, laidLooks := .later }
def AgentHidesUptoCardSaid : Prop := Claim7.holds Tryz.pinned (.plain (OpenSpec.upto agentHidesSpec)) agentHidesUptoCard
end Rows
end Go.Proofs.YtiliognepodhnaaGreatDoor
