import Derived.Test.YtgmlbldjdhonjaaDoorPT
namespace Go.Proofs.YtgmlbldjdhonjaaDoor
open Go.Vm
set_option autoImplicit false
set_option linter.unusedVariables false
set_option linter.unusedSimpArgs false
set_option maxRecDepth 100000
structure Good (p : api_Procs) : Prop where
 n2 : p.L.length ≤ 64
 inc : p.L.Pairwise (fun a b => a.Id < b.Id)
 fst : ∃ x r, p.L = x :: r ∧ x.Id = 1 ∧ x.Parent = 0
 lst : ∀ x ∈ p.L, x.Id < p.Next
 nx : p.Next ≤ 1048576
 g1 : 2 ≤ p.Group
 g2 : p.Group ≤ 1099511627777
 par : ∀ x ∈ p.L, x.Id ≠ 1 → ∃ y ∈ p.L, y.Id = x.Parent ∧ y.Id < x.Id
 fld : ∀ x ∈ p.L, fieldsB p x = true
structure Head (p : api_Procs) : Prop where
 n1 : 0 < p.L.length
 n2 : p.L.length ≤ 64
 lst : ∀ x, p.L.getLast? = some x → x.Id < p.Next
 nx : p.Next ≤ 1048576
 g1 : 2 ≤ p.Group
 g2 : p.Group ≤ 1099511627777
end Go.Proofs.YtgmlbldjdhonjaaDoor
