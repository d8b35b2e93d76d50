/-
  DERIVED. GIVEN WITH THE SEED: THE CARDS: each row of YtheeafnmkboblaaDoorRows.lean that lists a variable, with what it lists TIED to the program's text (the seventh form; the later family's looks); each row that meets fmt, with fmt's text TOLD by the authors' own Lean function (tested against real Go, not proved from fmt's source: count such statements apart). THE CARD IS WHAT COUNTS. Prove the row's statement (the work); the ties are given (YtheeafnmkboblaaDoorTie.lean); close each card by the builder's one call (the guide's Derived/Test/ToyasCard.lean, 'card_holds'). Laid BY PROGRAM, IN A SANDBOX (cutbox-door.mjs). By AI agents, Wed Nov 11 2026. No macro, syntax, notation, axiom, sorry.
-/
import Derived.Test.YtheeafnmkboblaaDoorRows
import GoSem.ClaimSeven
namespace Go.Proofs.YtheeafnmkboblaaDoor
namespace Rows

/-- THE TIED CARD OF 'filespacelaw03.PathNames'. -/
def pathNamesCard : Claim7 := { stood := { row := pathNamesRow, standIns := [], harness := (true, "8d6de184aae88457b78770121504e8c6aecc5dc1fa8bcef4929939c83b0b8338"), looks := false }, kinds := [], alts := [], laidByText := true, laidKinds := [.data, .pinned], laidTests := true, laidLooks := .later }
def PathNamesCardSaid : Prop := Claim7.holds Tryd.pinned (.plain (OpenSpec.ofChange pathNamesSpec)) pathNamesCard

/-- THE TIED CARD OF 'filespacelaw03.PathCleans'. -/
def pathCleansCard : Claim7 := { stood := { row := pathCleansRow, standIns := [], harness := (true, "8d6de184aae88457b78770121504e8c6aecc5dc1fa8bcef4929939c83b0b8338"), looks := false }, kinds := [], alts := [], laidByText := true, laidKinds := [.data, .pinned], laidTests := true, laidLooks := .later }
def PathCleansCardSaid : Prop := Claim7.holds Tryd.pinned (.plain (OpenSpec.ofChange pathCleansSpec)) pathCleansCard

/-- THE TIED CARD OF 'filespacelaw03.PathJoins'. -/
def pathJoinsCard : Claim7 := { stood := { row := pathJoinsRow, standIns := [], harness := (true, "8d6de184aae88457b78770121504e8c6aecc5dc1fa8bcef4929939c83b0b8338"), looks := false }, kinds := [], alts := [], laidByText := true, laidKinds := [.data, .pinned], laidTests := true, laidLooks := .later }
def PathJoinsCardSaid : Prop := Claim7.holds Tryd.pinned (.plain (OpenSpec.ofChange pathJoinsSpec)) pathJoinsCard

/-- THE TIED CARD OF 'filespacelaw03.PathContains'. -/
def pathContainsCard : Claim7 := { stood := { row := pathContainsRow, standIns := [], harness := (true, "8d6de184aae88457b78770121504e8c6aecc5dc1fa8bcef4929939c83b0b8338"), looks := false }, kinds := [], alts := [], laidByText := true, laidKinds := [.data, .pinned], laidTests := true, laidLooks := .later }
def PathContainsCardSaid : Prop := Claim7.holds Tryd.pinned (.plain (OpenSpec.ofChange pathContainsSpec)) pathContainsCard

/-- THE TIED CARD OF 'filespacelaw03.PathSettles'. -/
def pathSettlesCard : Claim7 := { stood := { row := pathSettlesRow, standIns := [], harness := (true, "8d6de184aae88457b78770121504e8c6aecc5dc1fa8bcef4929939c83b0b8338"), looks := false }, kinds := [], alts := [], laidByText := true, laidKinds := [.data, .pinned], laidTests := true, laidLooks := .later }
def PathSettlesCardSaid : Prop := Claim7.holds Tryd.pinned (.plain (OpenSpec.ofChange pathSettlesSpec)) pathSettlesCard

/-- THE TIED CARD OF 'filespacelaw03.PathNests'. -/
def pathNestsCard : Claim7 := { stood := { row := pathNestsRow, standIns := [], harness := (true, "8d6de184aae88457b78770121504e8c6aecc5dc1fa8bcef4929939c83b0b8338"), looks := false }, kinds := [], alts := [], laidByText := true, laidKinds := [.data, .pinned], laidTests := true, laidLooks := .later }
def PathNestsCardSaid : Prop := Claim7.holds Tryd.pinned (.plain (OpenSpec.ofChange pathNestsSpec)) pathNestsCard

/-- THE TIED CARD OF 'filespacelaw03.PathEnds'. -/
def pathEndsCard : Claim7 := { stood := { row := pathEndsRow, standIns := [], harness := (true, "8d6de184aae88457b78770121504e8c6aecc5dc1fa8bcef4929939c83b0b8338"), looks := false }, kinds := [], alts := [], laidByText := true, laidKinds := [.data, .pinned], laidTests := true, laidLooks := .later }
def PathEndsCardSaid : Prop := Claim7.holds Tryd.pinned (.plain (OpenSpec.ofChange pathEndsSpec)) pathEndsCard

/-- THE TIED CARD OF 'filespacelaw03.PathRejoins'. -/
def pathRejoinsCard : Claim7 := { stood := { row := pathRejoinsRow, standIns := [], harness := (true, "8d6de184aae88457b78770121504e8c6aecc5dc1fa8bcef4929939c83b0b8338"), looks := false }, kinds := [], alts := [], laidByText := true, laidKinds := [.data, .pinned], laidTests := true, laidLooks := .later }
def PathRejoinsCardSaid : Prop := Claim7.holds Tryd.pinned (.plain (OpenSpec.ofChange pathRejoinsSpec)) pathRejoinsCard

/-- THE SECOND FORM's CARD OF 'filespacelaw03.PathNames'. -/
def pathNamesUptoCard : Claim7 := { stood := { row := pathNamesUptoRow, standIns := [], harness := (true, "8d6de184aae88457b78770121504e8c6aecc5dc1fa8bcef4929939c83b0b8338"), looks := false }, kinds := [], alts := [], laidByText := true, laidKinds := [.data, .pinned], laidTests := true, laidLooks := .later }
def PathNamesUptoCardSaid : Prop := Claim7.holds Tryd.pinned (.plain (OpenSpec.upto pathNamesSpec)) pathNamesUptoCard

/-- THE SECOND FORM's CARD OF 'filespacelaw03.PathCleans'. -/
def pathCleansUptoCard : Claim7 := { stood := { row := pathCleansUptoRow, standIns := [], harness := (true, "8d6de184aae88457b78770121504e8c6aecc5dc1fa8bcef4929939c83b0b8338"), looks := false }, kinds := [], alts := [], laidByText := true, laidKinds := [.data, .pinned], laidTests := true, laidLooks := .later }
def PathCleansUptoCardSaid : Prop := Claim7.holds Tryd.pinned (.plain (OpenSpec.upto pathCleansSpec)) pathCleansUptoCard

/-- THE SECOND FORM's CARD OF 'filespacelaw03.PathJoins'. -/
def pathJoinsUptoCard : Claim7 := { stood := { row := pathJoinsUptoRow, standIns := [], harness := (true, "8d6de184aae88457b78770121504e8c6aecc5dc1fa8bcef4929939c83b0b8338"), looks := false }, kinds := [], alts := [], laidByText := true, laidKinds := [.data, .pinned], laidTests := true, laidLooks := .later }
def PathJoinsUptoCardSaid : Prop := Claim7.holds Tryd.pinned (.plain (OpenSpec.upto pathJoinsSpec)) pathJoinsUptoCard

/-- THE SECOND FORM's CARD OF 'filespacelaw03.PathContains'. -/
def pathContainsUptoCard : Claim7 := { stood := { row := pathContainsUptoRow, standIns := [], harness := (true, "8d6de184aae88457b78770121504e8c6aecc5dc1fa8bcef4929939c83b0b8338"), looks := false }, kinds := [], alts := [], laidByText := true, laidKinds := [.data, .pinned], laidTests := true, laidLooks := .later }
def PathContainsUptoCardSaid : Prop := Claim7.holds Tryd.pinned (.plain (OpenSpec.upto pathContainsSpec)) pathContainsUptoCard

/-- THE SECOND FORM's CARD OF 'filespacelaw03.PathSettles'. -/
def pathSettlesUptoCard : Claim7 := { stood := { row := pathSettlesUptoRow, standIns := [], harness := (true, "8d6de184aae88457b78770121504e8c6aecc5dc1fa8bcef4929939c83b0b8338"), looks := false }, kinds := [], alts := [], laidByText := true, laidKinds := [.data, .pinned], laidTests := true, laidLooks := .later }
def PathSettlesUptoCardSaid : Prop := Claim7.holds Tryd.pinned (.plain (OpenSpec.upto pathSettlesSpec)) pathSettlesUptoCard

/-- THE SECOND FORM's CARD OF 'filespacelaw03.PathNests'. -/
def pathNestsUptoCard : Claim7 := { stood := { row := pathNestsUptoRow, standIns := [], harness := (true, "8d6de184aae88457b78770121504e8c6aecc5dc1fa8bcef4929939c83b0b8338"), looks := false }, kinds := [], alts := [], laidByText := true, laidKinds := [.data, .pinned], laidTests := true, laidLooks := .later }
def PathNestsUptoCardSaid : Prop := Claim7.holds Tryd.pinned (.plain (OpenSpec.upto pathNestsSpec)) pathNestsUptoCard

/-- THE SECOND FORM's CARD OF 'filespacelaw03.PathEnds'. -/
def pathEndsUptoCard : Claim7 := { stood := { row := pathEndsUptoRow, standIns := [], harness := (true, "8d6de184aae88457b78770121504e8c6aecc5dc1fa8bcef4929939c83b0b8338"), looks := false }, kinds := [], alts := [], laidByText := true, laidKinds := [.data, .pinned], laidTests := true, laidLooks := .later }
def PathEndsUptoCardSaid : Prop := Claim7.holds Tryd.pinned (.plain (OpenSpec.upto pathEndsSpec)) pathEndsUptoCard

/-- THE SECOND FORM's CARD OF 'filespacelaw03.PathRejoins'. -/
def pathRejoinsUptoCard : Claim7 := { stood := { row := pathRejoinsUptoRow, standIns := [], harness := (true, "8d6de184aae88457b78770121504e8c6aecc5dc1fa8bcef4929939c83b0b8338"), looks := false }, kinds := [], alts := [], laidByText := true, laidKinds := [.data, .pinned], laidTests := true, laidLooks := .later }
def PathRejoinsUptoCardSaid : Prop := Claim7.holds Tryd.pinned (.plain (OpenSpec.upto pathRejoinsSpec)) pathRejoinsUptoCard
end Rows
end Go.Proofs.YtheeafnmkboblaaDoor
