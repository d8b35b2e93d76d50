/- Arguments of the statements as typed data. -/
import Derived.Test.YtfaobpifaobobaaDoorS
import Derived.Test.YtfaobpifaobobaaDoorVmP
namespace Go.Proofs.YtfaobpifaobobaaDoor
open Go.Vm
set_option autoImplicit false
set_option linter.unusedVariables false
set_option maxRecDepth 100000

theorem args3 {qs : List PV} (h : HasArgs [.str] qs) : ∃ (user : Str), qs = [.str user] ∧ (List.length user ≤ maxLen) := by
  obtain ⟨q0, r0, e0, f0, h0, h⟩ := h.cons
  rw [fits_one f0] at h0
  obtain ⟨x0, y0, w0⟩ := h0.str
  obtain rfl := (List.cons.inj y0).1
  have hn := h.nil
  exact ⟨x0, by rw [e0, hn]; try rfl, w0⟩
end Go.Proofs.YtfaobpifaobobaaDoor
