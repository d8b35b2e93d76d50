/-
  DERIVED. GIVEN WITH THE SEED: THE CARDS: each row of YtphblddgbbgdnaaDoorRows.lean that lists a variable, with what it lists TIED to the program's text (the seventh form; the later family's looks); each row that meets fmt, with fmt's text TOLD by the authors' own Lean function (tested against real Go, not proved from fmt's source: count such statements apart). THE CARD IS WHAT COUNTS. Prove the row's statement (the work); the ties are given (YtphblddgbbgdnaaDoorTie.lean); close each card by the builder's one call (the guide's Derived/Test/ToyasCard.lean, 'card_holds'). Laid BY PROGRAM, IN A SANDBOX (cutbox-door.mjs). By AI agents, Wed Nov 11 2026. No macro, syntax, notation, axiom, sorry.
-/
import Derived.Test.YtphblddgbbgdnaaDoorRows
import GoSem.ClaimSeven
namespace Go.Proofs.YtphblddgbbgdnaaDoor
namespace Rows

/-- THE TIED CARD OF 'filespacelaw27.DialTexts'. -/
def dialTextsCard : Claim7 := { stood := { row := dialTextsRow, standIns := [], harness := (true, "542297d33fa7f15b3e4c69358fa14f5d7b0822965856867d6801152055ef77b8"), looks := false }, kinds := [], alts := [], laidByText := true, laidKinds := [.data, .pinned], laidTests := true, laidLooks := .later }
def DialTextsCardSaid : Prop := Claim7.holds Tryd.pinned (.plain (OpenSpec.ofChange dialTextsSpec)) dialTextsCard

/-- THE TIED CARD OF 'filespacelaw27.DialReads'. -/
def dialReadsCard : Claim7 := { stood := { row := dialReadsRow, standIns := [], harness := (true, "542297d33fa7f15b3e4c69358fa14f5d7b0822965856867d6801152055ef77b8"), looks := false }, kinds := [], alts := [], laidByText := true, laidKinds := [.data, .pinned], laidTests := true, laidLooks := .later }
def DialReadsCardSaid : Prop := Claim7.holds Tryd.pinned (.plain (OpenSpec.ofChange dialReadsSpec)) dialReadsCard

/-- THE TIED CARD OF 'filespacelaw27.DialQueries'. -/
def dialQueriesCard : Claim7 := { stood := { row := dialQueriesRow, standIns := [], harness := (true, "542297d33fa7f15b3e4c69358fa14f5d7b0822965856867d6801152055ef77b8"), looks := false }, kinds := [], alts := [], laidByText := true, laidKinds := [.data, .pinned], laidTests := true, laidLooks := .later }
def DialQueriesCardSaid : Prop := Claim7.holds Tryd.pinned (.plain (OpenSpec.ofChange dialQueriesSpec)) dialQueriesCard

/-- THE TIED CARD OF 'filespacelaw27.DialTranslates'. -/
def dialTranslatesCard : Claim7 := { stood := { row := dialTranslatesRow, standIns := [], harness := (true, "542297d33fa7f15b3e4c69358fa14f5d7b0822965856867d6801152055ef77b8"), looks := false }, kinds := [], alts := [], laidByText := true, laidKinds := [.data, .pinned], laidTests := true, laidLooks := .later }
def DialTranslatesCardSaid : Prop := Claim7.holds Tryd.pinned (.plain (OpenSpec.ofChange dialTranslatesSpec)) dialTranslatesCard

/-- THE TIED CARD OF 'filespacelaw27.DialSettles'. -/
def dialSettlesCard : Claim7 := { stood := { row := dialSettlesRow, standIns := [], harness := (true, "542297d33fa7f15b3e4c69358fa14f5d7b0822965856867d6801152055ef77b8"), looks := false }, kinds := [], alts := [], laidByText := true, laidKinds := [.data, .pinned], laidTests := true, laidLooks := .later }
def DialSettlesCardSaid : Prop := Claim7.holds Tryd.pinned (.plain (OpenSpec.ofChange dialSettlesSpec)) dialSettlesCard

/-- THE TIED CARD OF 'filespacelaw27.DialPrints'. -/
def dialPrintsCard : Claim7 := { stood := { row := dialPrintsRow, standIns := [], harness := (true, "542297d33fa7f15b3e4c69358fa14f5d7b0822965856867d6801152055ef77b8"), looks := false }, kinds := [], alts := [], laidByText := true, laidKinds := [.data, .pinned], laidTests := true, laidLooks := .later }
def DialPrintsCardSaid : Prop := Claim7.holds Tryd.pinned (.plain (OpenSpec.ofChange dialPrintsSpec)) dialPrintsCard

/-- THE TIED CARD OF 'filespacelaw27.DialReturns'. -/
def dialReturnsCard : Claim7 := { stood := { row := dialReturnsRow, standIns := [], harness := (true, "542297d33fa7f15b3e4c69358fa14f5d7b0822965856867d6801152055ef77b8"), looks := false }, kinds := [], alts := [], laidByText := true, laidKinds := [.data, .pinned], laidTests := true, laidLooks := .later }
def DialReturnsCardSaid : Prop := Claim7.holds Tryd.pinned (.plain (OpenSpec.ofChange dialReturnsSpec)) dialReturnsCard

/-- THE SECOND FORM's CARD OF 'filespacelaw27.DialTexts'. -/
def dialTextsUptoCard : Claim7 := { stood := { row := dialTextsUptoRow, standIns := [], harness := (true, "542297d33fa7f15b3e4c69358fa14f5d7b0822965856867d6801152055ef77b8"), looks := false }, kinds := [], alts := [], laidByText := true, laidKinds := [.data, .pinned], laidTests := true, laidLooks := .later }
def DialTextsUptoCardSaid : Prop := Claim7.holds Tryd.pinned (.plain (OpenSpec.upto dialTextsSpec)) dialTextsUptoCard

/-- THE SECOND FORM's CARD OF 'filespacelaw27.DialReads'. -/
def dialReadsUptoCard : Claim7 := { stood := { row := dialReadsUptoRow, standIns := [], harness := (true, "542297d33fa7f15b3e4c69358fa14f5d7b0822965856867d6801152055ef77b8"), looks := false }, kinds := [], alts := [], laidByText := true, laidKinds := [.data, .pinned], laidTests := true, laidLooks := .later }
def DialReadsUptoCardSaid : Prop := Claim7.holds Tryd.pinned (.plain (OpenSpec.upto dialReadsSpec)) dialReadsUptoCard

/-- THE SECOND FORM's CARD OF 'filespacelaw27.DialQueries'. -/
def dialQueriesUptoCard : Claim7 := { stood := { row := dialQueriesUptoRow, standIns := [], harness := (true, "542297d33fa7f15b3e4c69358fa14f5d7b0822965856867d6801152055ef77b8"), looks := false }, kinds := [], alts := [], laidByText := true, laidKinds := [.data, .pinned], laidTests := true, laidLooks := .later }
def DialQueriesUptoCardSaid : Prop := Claim7.holds Tryd.pinned (.plain (OpenSpec.upto dialQueriesSpec)) dialQueriesUptoCard

/-- THE SECOND FORM's CARD OF 'filespacelaw27.DialTranslates'. -/
def dialTranslatesUptoCard : Claim7 := { stood := { row := dialTranslatesUptoRow, standIns := [], harness := (true, "542297d33fa7f15b3e4c69358fa14f5d7b0822965856867d6801152055ef77b8"), looks := false }, kinds := [], alts := [], laidByText := true, laidKinds := [.data, .pinned], laidTests := true, laidLooks := .later }
def DialTranslatesUptoCardSaid : Prop := Claim7.holds Tryd.pinned (.plain (OpenSpec.upto dialTranslatesSpec)) dialTranslatesUptoCard

/-- THE SECOND FORM's CARD OF 'filespacelaw27.DialSettles'. -/
def dialSettlesUptoCard : Claim7 := { stood := { row := dialSettlesUptoRow, standIns := [], harness := (true, "542297d33fa7f15b3e4c69358fa14f5d7b0822965856867d6801152055ef77b8"), looks := false }, kinds := [], alts := [], laidByText := true, laidKinds := [.data, .pinned], laidTests := true, laidLooks := .later }
def DialSettlesUptoCardSaid : Prop := Claim7.holds Tryd.pinned (.plain (OpenSpec.upto dialSettlesSpec)) dialSettlesUptoCard

/-- THE SECOND FORM's CARD OF 'filespacelaw27.DialPrints'. -/
def dialPrintsUptoCard : Claim7 := { stood := { row := dialPrintsUptoRow, standIns := [], harness := (true, "542297d33fa7f15b3e4c69358fa14f5d7b0822965856867d6801152055ef77b8"), looks := false }, kinds := [], alts := [], laidByText := true, laidKinds := [.data, .pinned], laidTests := true, laidLooks := .later }
def DialPrintsUptoCardSaid : Prop := Claim7.holds Tryd.pinned (.plain (OpenSpec.upto dialPrintsSpec)) dialPrintsUptoCard

/-- THE SECOND FORM's CARD OF 'filespacelaw27.DialReturns'. -/
def dialReturnsUptoCard : Claim7 := { stood := { row := dialReturnsUptoRow, standIns := [], harness := (true, "542297d33fa7f15b3e4c69358fa14f5d7b0822965856867d6801152055ef77b8"), looks := false }, kinds := [], alts := [], laidByText := true, laidKinds := [.data, .pinned], laidTests := true, laidLooks := .later }
def DialReturnsUptoCardSaid : Prop := Claim7.holds Tryd.pinned (.plain (OpenSpec.upto dialReturnsSpec)) dialReturnsUptoCard
end Rows
end Go.Proofs.YtphblddgbbgdnaaDoor
