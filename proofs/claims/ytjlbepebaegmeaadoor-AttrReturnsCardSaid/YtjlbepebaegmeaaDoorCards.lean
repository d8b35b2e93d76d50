/-
  DERIVED. GIVEN WITH THE SEED: THE CARDS: each row of YtjlbepebaegmeaaDoorRows.lean that lists a variable, with what it lists TIED to the program's text (the seventh form; the later family's looks); each row that meets fmt, with fmt's text TOLD by the authors' own Lean function (tested against real Go, not proved from fmt's source: count such statements apart). THE CARD IS WHAT COUNTS. Prove the row's statement (the work); the ties are given (YtjlbepebaegmeaaDoorTie.lean); close each card by the builder's one call (the guide's Derived/Test/ToyasCard.lean, 'card_holds'). Laid BY PROGRAM, IN A SANDBOX (cutbox-door.mjs). By AI agents, Wed Nov 11 2026. No macro, syntax, notation, axiom, sorry.
-/
import Derived.Test.YtjlbepebaegmeaaDoorRows
import GoSem.ClaimSeven
namespace Go.Proofs.YtjlbepebaegmeaaDoor
namespace Rows

/-- THE TIED CARD OF 'filespacelaw22.AttrChecks'. -/
def attrChecksCard : Claim7 := { stood := { row := attrChecksRow, standIns := [], harness := (true, "b6c5f89d7ba90eaba20a114397c1efce309a75f51bd2a80627244562b0c0b742"), looks := false }, kinds := [], alts := [], laidByText := true, laidKinds := [.data, .pinned], laidTests := true, laidLooks := .later }
def AttrChecksCardSaid : Prop := Claim7.holds Tryd.pinned (.plain (OpenSpec.ofChange attrChecksSpec)) attrChecksCard

/-- THE TIED CARD OF 'filespacelaw22.AttrPrints'. -/
def attrPrintsCard : Claim7 := { stood := { row := attrPrintsRow, standIns := [], harness := (true, "b6c5f89d7ba90eaba20a114397c1efce309a75f51bd2a80627244562b0c0b742"), looks := false }, kinds := [], alts := [], laidByText := true, laidKinds := [.data, .pinned], laidTests := true, laidLooks := .later }
def AttrPrintsCardSaid : Prop := Claim7.holds Tryd.pinned (.plain (OpenSpec.ofChange attrPrintsSpec)) attrPrintsCard

/-- THE TIED CARD OF 'filespacelaw22.AttrParses'. -/
def attrParsesCard : Claim7 := { stood := { row := attrParsesRow, standIns := [], harness := (true, "b6c5f89d7ba90eaba20a114397c1efce309a75f51bd2a80627244562b0c0b742"), looks := false }, kinds := [], alts := [], laidByText := true, laidKinds := [.data, .pinned], laidTests := true, laidLooks := .later }
def AttrParsesCardSaid : Prop := Claim7.holds Tryd.pinned (.plain (OpenSpec.ofChange attrParsesSpec)) attrParsesCard

/-- THE TIED CARD OF 'filespacelaw22.AttrMatches'. -/
def attrMatchesCard : Claim7 := { stood := { row := attrMatchesRow, standIns := [], harness := (true, "b6c5f89d7ba90eaba20a114397c1efce309a75f51bd2a80627244562b0c0b742"), looks := false }, kinds := [], alts := [], laidByText := true, laidKinds := [.data, .pinned], laidTests := true, laidLooks := .later }
def AttrMatchesCardSaid : Prop := Claim7.holds Tryd.pinned (.plain (OpenSpec.ofChange attrMatchesSpec)) attrMatchesCard

/-- THE TIED CARD OF 'filespacelaw22.AttrReturns'. -/
def attrReturnsCard : Claim7 := { stood := { row := attrReturnsRow, standIns := [], harness := (true, "b6c5f89d7ba90eaba20a114397c1efce309a75f51bd2a80627244562b0c0b742"), looks := false }, kinds := [], alts := [], laidByText := true, laidKinds := [.data, .pinned], laidTests := true, laidLooks := .later }
def AttrReturnsCardSaid : Prop := Claim7.holds Tryd.pinned (.plain (OpenSpec.ofChange attrReturnsSpec)) attrReturnsCard

/-- THE TIED CARD OF 'filespacelaw22.AttrSelects'. -/
def attrSelectsCard : Claim7 := { stood := { row := attrSelectsRow, standIns := [], harness := (true, "b6c5f89d7ba90eaba20a114397c1efce309a75f51bd2a80627244562b0c0b742"), looks := false }, kinds := [], alts := [], laidByText := true, laidKinds := [.data, .pinned], laidTests := true, laidLooks := .later }
def AttrSelectsCardSaid : Prop := Claim7.holds Tryd.pinned (.plain (OpenSpec.ofChange attrSelectsSpec)) attrSelectsCard

/-- THE TIED CARD OF 'filespacelaw22.AttrSets'. -/
def attrSetsCard : Claim7 := { stood := { row := attrSetsRow, standIns := [], harness := (true, "b6c5f89d7ba90eaba20a114397c1efce309a75f51bd2a80627244562b0c0b742"), looks := false }, kinds := [], alts := [], laidByText := true, laidKinds := [.data, .pinned], laidTests := true, laidLooks := .later }
def AttrSetsCardSaid : Prop := Claim7.holds Tryd.pinned (.plain (OpenSpec.ofChange attrSetsSpec)) attrSetsCard

/-- THE TIED CARD OF 'filespacelaw22.AttrFinds'. -/
def attrFindsCard : Claim7 := { stood := { row := attrFindsRow, standIns := [], harness := (true, "b6c5f89d7ba90eaba20a114397c1efce309a75f51bd2a80627244562b0c0b742"), looks := false }, kinds := [], alts := [], laidByText := true, laidKinds := [.data, .pinned], laidTests := true, laidLooks := .later }
def AttrFindsCardSaid : Prop := Claim7.holds Tryd.pinned (.plain (OpenSpec.ofChange attrFindsSpec)) attrFindsCard

/-- THE SECOND FORM's CARD OF 'filespacelaw22.AttrChecks'. -/
def attrChecksUptoCard : Claim7 := { stood := { row := attrChecksUptoRow, standIns := [], harness := (true, "b6c5f89d7ba90eaba20a114397c1efce309a75f51bd2a80627244562b0c0b742"), looks := false }, kinds := [], alts := [], laidByText := true, laidKinds := [.data, .pinned], laidTests := true, laidLooks := .later }
def AttrChecksUptoCardSaid : Prop := Claim7.holds Tryd.pinned (.plain (OpenSpec.upto attrChecksSpec)) attrChecksUptoCard

/-- THE SECOND FORM's CARD OF 'filespacelaw22.AttrPrints'. -/
def attrPrintsUptoCard : Claim7 := { stood := { row := attrPrintsUptoRow, standIns := [], harness := (true, "b6c5f89d7ba90eaba20a114397c1efce309a75f51bd2a80627244562b0c0b742"), looks := false }, kinds := [], alts := [], laidByText := true, laidKinds := [.data, .pinned], laidTests := true, laidLooks := .later }
def AttrPrintsUptoCardSaid : Prop := Claim7.holds Tryd.pinned (.plain (OpenSpec.upto attrPrintsSpec)) attrPrintsUptoCard

/-- THE SECOND FORM's CARD OF 'filespacelaw22.AttrParses'. -/
def attrParsesUptoCard : Claim7 := { stood := { row := attrParsesUptoRow, standIns := [], harness := (true, "b6c5f89d7ba90eaba20a114397c1efce309a75f51bd2a80627244562b0c0b742"), looks := false }, kinds := [], alts := [], laidByText := true, laidKinds := [.data, .pinned], laidTests := true, laidLooks := .later }
def AttrParsesUptoCardSaid : Prop := Claim7.holds Tryd.pinned (.plain (OpenSpec.upto attrParsesSpec)) attrParsesUptoCard

/-- THE SECOND FORM's CARD OF 'filespacelaw22.AttrMatches'. -/
def attrMatchesUptoCard : Claim7 := { stood := { row := attrMatchesUptoRow, standIns := [], harness := (true, "b6c5f89d7ba90eaba20a114397c1efce309a75f51bd2a80627244562b0c0b742"), looks := false }, kinds := [], alts := [], laidByText := true, laidKinds := [.data, .pinned], laidTests := true, laidLooks := .later }
def AttrMatchesUptoCardSaid : Prop := Claim7.holds Tryd.pinned (.plain (OpenSpec.upto attrMatchesSpec)) attrMatchesUptoCard

/-- THE SECOND FORM's CARD OF 'filespacelaw22.AttrReturns'. -/
def attrReturnsUptoCard : Claim7 := { stood := { row := attrReturnsUptoRow, standIns := [], harness := (true, "b6c5f89d7ba90eaba20a114397c1efce309a75f51bd2a80627244562b0c0b742"), looks := false }, kinds := [], alts := [], laidByText := true, laidKinds := [.data, .pinned], laidTests := true, laidLooks := .later }
def AttrReturnsUptoCardSaid : Prop := Claim7.holds Tryd.pinned (.plain (OpenSpec.upto attrReturnsSpec)) attrReturnsUptoCard

/-- THE SECOND FORM's CARD OF 'filespacelaw22.AttrSelects'. -/
def attrSelectsUptoCard : Claim7 := { stood := { row := attrSelectsUptoRow, standIns := [], harness := (true, "b6c5f89d7ba90eaba20a114397c1efce309a75f51bd2a80627244562b0c0b742"), looks := false }, kinds := [], alts := [], laidByText := true, laidKinds := [.data, .pinned], laidTests := true, laidLooks := .later }
def AttrSelectsUptoCardSaid : Prop := Claim7.holds Tryd.pinned (.plain (OpenSpec.upto attrSelectsSpec)) attrSelectsUptoCard

/-- THE SECOND FORM's CARD OF 'filespacelaw22.AttrSets'. -/
def attrSetsUptoCard : Claim7 := { stood := { row := attrSetsUptoRow, standIns := [], harness := (true, "b6c5f89d7ba90eaba20a114397c1efce309a75f51bd2a80627244562b0c0b742"), looks := false }, kinds := [], alts := [], laidByText := true, laidKinds := [.data, .pinned], laidTests := true, laidLooks := .later }
def AttrSetsUptoCardSaid : Prop := Claim7.holds Tryd.pinned (.plain (OpenSpec.upto attrSetsSpec)) attrSetsUptoCard

/-- THE SECOND FORM's CARD OF 'filespacelaw22.AttrFinds'. -/
def attrFindsUptoCard : Claim7 := { stood := { row := attrFindsUptoRow, standIns := [], harness := (true, "b6c5f89d7ba90eaba20a114397c1efce309a75f51bd2a80627244562b0c0b742"), looks := false }, kinds := [], alts := [], laidByText := true, laidKinds := [.data, .pinned], laidTests := true, laidLooks := .later }
def AttrFindsUptoCardSaid : Prop := Claim7.holds Tryd.pinned (.plain (OpenSpec.upto attrFindsSpec)) attrFindsUptoCard
end Rows
end Go.Proofs.YtjlbepebaegmeaaDoor
