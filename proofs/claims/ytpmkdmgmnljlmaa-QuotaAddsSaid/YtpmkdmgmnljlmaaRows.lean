/-
  No cell of these rows narrows 'for every input' (looked for: loops, veiled, ifaces, maps, wideKeys, modest, calm, conditions, laid).
  DERIVED. THE GIVEN ROWS OF THIS SEAT. 5 by the template 'for every input the law returns true; each argument reads behind the call as it read before'; 0 by the template 'total and deterministic' (their statements: YtpmkdmgmnljlmaaTotals.lean).
  GIVEN WITH THE SEED: the statements are not yours to turn. If you find one false, say at which input.
  Laid BY PROGRAM, IN A SANDBOX (cutbox-rows.mjs): the forced cells as the released guide's own fill.sh prints them over the translation b08d962126faf48e… (all of the seat's roots in one cut). By AI agents, Wed Nov 11 2026. No macro, syntax, notation, axiom, sorry.
-/
import Derived.Test.YtpmkdmgmnljlmaaChecked
import GoSem.Claim
import GoSem.ClaimJoined
import GoSem.ClaimMapViews
import Derived.JoinedTies
import Derived.KernelRfl
namespace Go.Proofs.Ytpmkdmgmnljlmaa
/- THE CELL 'sum', in the pinned program and in every row, IS THE sha256 OF THE DUMP (.gsa) THAT YtpmkdmgmnljlmaaProg.lean LOADS. Nothing in Lean hashes anything: it is a label: what it is worth is what the hold of that sum in a sandbox is worth. -/
noncomputable def Try.pinned : Pinned := { name := "ytpmkdmgmnljlmaa", sum := "b08d962126faf48e73eee0841a057a8d24dc076111cc67b996ae0e95cebdbede", checked := Try.checked }
namespace Rows
def none {H : Type} : Left H := { results := [], args := [] }

/-- 'filespacelaw12.QuotaChecks': WHATEVER THE INPUT: true; the input reads as it did. -/
def quotaChecksSpec : ChangeSpec := { name := "quotaChecks", fn := fun _ => fun
  | [d] => { results := [.lit (.bool true)], args := [d] }
  | _ => none }
def quotaChecksRow : OpenClaim := { program := "ytpmkdmgmnljlmaa", sum := "b08d962126faf48e73eee0841a057a8d24dc076111cc67b996ae0e95cebdbede", func := "filespace/filespacelaw12.QuotaChecks", spec := "quotaChecks", apart := false }
def QuotaChecksSaid : Prop := quotaChecksRow.holds Try.pinned (OpenSpec.ofChange quotaChecksSpec)

/-- ITS FALSE NEIGHBOUR: 'it returns false'. Refute it at one input. -/
def quotaChecksWrong : ChangeSpec := { name := "quotaChecks", fn := fun _ => fun
  | [d] => { results := [.lit (.bool false)], args := [d] }
  | _ => none }
def QuotaChecksWrongFalsely : Prop := quotaChecksRow.holds Try.pinned (OpenSpec.ofChange quotaChecksWrong)

/-- 'filespacelaw12.QuotaUses': WHATEVER THE INPUT: true; the input reads as it did. -/
def quotaUsesSpec : ChangeSpec := { name := "quotaUses", fn := fun _ => fun
  | [d1, d2, d3] => { results := [.lit (.bool true)], args := [d1, d2, d3] }
  | _ => none }
def quotaUsesRow : OpenClaim := { program := "ytpmkdmgmnljlmaa", sum := "b08d962126faf48e73eee0841a057a8d24dc076111cc67b996ae0e95cebdbede", func := "filespace/filespacelaw12.QuotaUses", spec := "quotaUses", apart := false }
def QuotaUsesSaid : Prop := quotaUsesRow.holds Try.pinned (OpenSpec.ofChange quotaUsesSpec)

/-- ITS FALSE NEIGHBOUR: 'it returns false'. Refute it at one input. -/
def quotaUsesWrong : ChangeSpec := { name := "quotaUses", fn := fun _ => fun
  | [d1, d2, d3] => { results := [.lit (.bool false)], args := [d1, d2, d3] }
  | _ => none }
def QuotaUsesWrongFalsely : Prop := quotaUsesRow.holds Try.pinned (OpenSpec.ofChange quotaUsesWrong)

/-- 'filespacelaw12.QuotaLess': WHATEVER THE INPUT: true; the input reads as it did. -/
def quotaLessSpec : ChangeSpec := { name := "quotaLess", fn := fun _ => fun
  | [d1, d2, d3] => { results := [.lit (.bool true)], args := [d1, d2, d3] }
  | _ => none }
def quotaLessRow : OpenClaim := { program := "ytpmkdmgmnljlmaa", sum := "b08d962126faf48e73eee0841a057a8d24dc076111cc67b996ae0e95cebdbede", func := "filespace/filespacelaw12.QuotaLess", spec := "quotaLess", apart := false }
def QuotaLessSaid : Prop := quotaLessRow.holds Try.pinned (OpenSpec.ofChange quotaLessSpec)

/-- ITS FALSE NEIGHBOUR: 'it returns false'. Refute it at one input. -/
def quotaLessWrong : ChangeSpec := { name := "quotaLess", fn := fun _ => fun
  | [d1, d2, d3] => { results := [.lit (.bool false)], args := [d1, d2, d3] }
  | _ => none }
def QuotaLessWrongFalsely : Prop := quotaLessRow.holds Try.pinned (OpenSpec.ofChange quotaLessWrong)

/-- 'filespacelaw12.QuotaOver': WHATEVER THE INPUT: true; the input reads as it did. -/
def quotaOverSpec : ChangeSpec := { name := "quotaOver", fn := fun _ => fun
  | [d1, d2] => { results := [.lit (.bool true)], args := [d1, d2] }
  | _ => none }
def quotaOverRow : OpenClaim := { program := "ytpmkdmgmnljlmaa", sum := "b08d962126faf48e73eee0841a057a8d24dc076111cc67b996ae0e95cebdbede", func := "filespace/filespacelaw12.QuotaOver", spec := "quotaOver", apart := false }
def QuotaOverSaid : Prop := quotaOverRow.holds Try.pinned (OpenSpec.ofChange quotaOverSpec)

/-- ITS FALSE NEIGHBOUR: 'it returns false'. Refute it at one input. -/
def quotaOverWrong : ChangeSpec := { name := "quotaOver", fn := fun _ => fun
  | [d1, d2] => { results := [.lit (.bool false)], args := [d1, d2] }
  | _ => none }
def QuotaOverWrongFalsely : Prop := quotaOverRow.holds Try.pinned (OpenSpec.ofChange quotaOverWrong)

/-- 'filespacelaw12.QuotaAdds': WHATEVER THE INPUT: true; the input reads as it did. -/
def quotaAddsSpec : ChangeSpec := { name := "quotaAdds", fn := fun _ => fun
  | [d1, d2, d3, d4] => { results := [.lit (.bool true)], args := [d1, d2, d3, d4] }
  | _ => none }
def quotaAddsRow : OpenClaim := { program := "ytpmkdmgmnljlmaa", sum := "b08d962126faf48e73eee0841a057a8d24dc076111cc67b996ae0e95cebdbede", func := "filespace/filespacelaw12.QuotaAdds", spec := "quotaAdds", apart := false }
def QuotaAddsSaid : Prop := quotaAddsRow.holds Try.pinned (OpenSpec.ofChange quotaAddsSpec)

/-- ITS FALSE NEIGHBOUR: 'it returns false'. Refute it at one input. -/
def quotaAddsWrong : ChangeSpec := { name := "quotaAdds", fn := fun _ => fun
  | [d1, d2, d3, d4] => { results := [.lit (.bool false)], args := [d1, d2, d3, d4] }
  | _ => none }
def QuotaAddsWrongFalsely : Prop := quotaAddsRow.holds Try.pinned (OpenSpec.ofChange quotaAddsWrong)

/- THE SECOND FORM. 'bulk': how many values and letters a reading holds, each counted each time it is reached (what is shared counts as often as it is met; a slice's spare places count too). A statement '..UptoSaid' is the law's where the arguments, and the package variables that the reading takes, are together of bulk at most 1048576: NARROWER than '..Said'. Prove '..Said' where nothing that the law and all that it calls make is longer than what came in: it says more and counts as full. Else prove '..UptoSaid'. A law counts once. -/
mutual
def uptoBulk {H : Type} : DataW H → Nat
  | .lit (.string bytes) => bytes.length + 1
  | .lit _ => 1
  | .nil => 1
  | .ptr d => uptoBulk d + 1
  | .slice elems spare => uptoBulkAll elems + uptoBulkAll spare + 1
  | .agg parts => uptoBulkAll parts + 1
  | .iface _ d => uptoBulk d + 1
  | .map entries => uptoBulkEntries entries + 1
  | .held _ => 1
def uptoBulkAll {H : Type} : List (DataW H) → Nat
  | [] => 0
  | d :: r => uptoBulk d + uptoBulkAll r
def uptoBulkEntries {H : Type} : List (Lit × DataW H) → Nat
  | [] => 0
  | x :: r => uptoBulkEntry x + uptoBulkEntries r
def uptoBulkEntry {H : Type} : Lit × DataW H → Nat
  | (.string bytes, d) => bytes.length + uptoBulk d + 1
  | (_, d) => uptoBulk d + 1
 end
def uptoSmall : (H : Type) → List (DataW H) → Bool := fun _ ds => decide (uptoBulkAll ds ≤ 1048576)
def OpenSpec.upto (s : _root_.Go.ChangeSpec) : _root_.Go.OpenSpec := { _root_.Go.OpenSpec.ofChange s with cond := some uptoSmall }

/-- 'filespacelaw12.QuotaChecks', WHERE WHAT IT READS IS OF BULK AT MOST 1048576: true; the input reads as it did. -/
def quotaChecksUptoRow : OpenClaim := { program := "ytpmkdmgmnljlmaa", sum := "b08d962126faf48e73eee0841a057a8d24dc076111cc67b996ae0e95cebdbede", func := "filespace/filespacelaw12.QuotaChecks", spec := "quotaChecks", apart := false, narrowed := true }
def QuotaChecksUptoSaid : Prop := quotaChecksUptoRow.holds Try.pinned (OpenSpec.upto quotaChecksSpec)

/-- 'filespacelaw12.QuotaUses', WHERE WHAT IT READS IS OF BULK AT MOST 1048576: true; the input reads as it did. -/
def quotaUsesUptoRow : OpenClaim := { program := "ytpmkdmgmnljlmaa", sum := "b08d962126faf48e73eee0841a057a8d24dc076111cc67b996ae0e95cebdbede", func := "filespace/filespacelaw12.QuotaUses", spec := "quotaUses", apart := false, narrowed := true }
def QuotaUsesUptoSaid : Prop := quotaUsesUptoRow.holds Try.pinned (OpenSpec.upto quotaUsesSpec)

/-- 'filespacelaw12.QuotaLess', WHERE WHAT IT READS IS OF BULK AT MOST 1048576: true; the input reads as it did. -/
def quotaLessUptoRow : OpenClaim := { program := "ytpmkdmgmnljlmaa", sum := "b08d962126faf48e73eee0841a057a8d24dc076111cc67b996ae0e95cebdbede", func := "filespace/filespacelaw12.QuotaLess", spec := "quotaLess", apart := false, narrowed := true }
def QuotaLessUptoSaid : Prop := quotaLessUptoRow.holds Try.pinned (OpenSpec.upto quotaLessSpec)

/-- 'filespacelaw12.QuotaOver', WHERE WHAT IT READS IS OF BULK AT MOST 1048576: true; the input reads as it did. -/
def quotaOverUptoRow : OpenClaim := { program := "ytpmkdmgmnljlmaa", sum := "b08d962126faf48e73eee0841a057a8d24dc076111cc67b996ae0e95cebdbede", func := "filespace/filespacelaw12.QuotaOver", spec := "quotaOver", apart := false, narrowed := true }
def QuotaOverUptoSaid : Prop := quotaOverUptoRow.holds Try.pinned (OpenSpec.upto quotaOverSpec)

/-- 'filespacelaw12.QuotaAdds', WHERE WHAT IT READS IS OF BULK AT MOST 1048576: true; the input reads as it did. -/
def quotaAddsUptoRow : OpenClaim := { program := "ytpmkdmgmnljlmaa", sum := "b08d962126faf48e73eee0841a057a8d24dc076111cc67b996ae0e95cebdbede", func := "filespace/filespacelaw12.QuotaAdds", spec := "quotaAdds", apart := false, narrowed := true }
def QuotaAddsUptoSaid : Prop := quotaAddsUptoRow.holds Try.pinned (OpenSpec.upto quotaAddsSpec)

end Rows
end Go.Proofs.Ytpmkdmgmnljlmaa
