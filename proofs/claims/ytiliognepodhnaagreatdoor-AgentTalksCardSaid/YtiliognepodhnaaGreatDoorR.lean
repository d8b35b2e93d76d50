import Derived.Test.YtiliognepodhnaaGreatDoorS
import Derived.Test.YtiliognepodhnaaGreatDoorVmP
namespace Go.Proofs.YtiliognepodhnaaGreatDoor
open Go.Vm
set_option autoImplicit false
set_option linter.unusedVariables false
set_option maxRecDepth 100000
theorem args6 {qs : List PV} (h : HasArgs [(.int .u8), .str, .str] qs) : ∃ (which : Int) (x_ : Str) (y : Str), qs = [.int .u8 which, .str x_, .str y] ∧ (Lit.int .u8 which).wf = true ∧ (List.length x_ ≤ maxLen) ∧ (List.length y ≤ maxLen) := by
  obtain ⟨q0, r0, e0, f0, h0, h⟩ := h.cons
  rw [bA3 f0] at h0
  obtain ⟨x0, y0, w0⟩ := h0.int
  obtain rfl := (List.cons.inj y0).1
  obtain ⟨q1, r1, e1, f1, h1, h⟩ := h.cons
  rw [bA3 f1] at h1
  obtain ⟨x1, y1, w1⟩ := h1.str
  obtain rfl := (List.cons.inj y1).1
  obtain ⟨q2, r2, e2, f2, h2, h⟩ := h.cons
  rw [bA3 f2] at h2
  obtain ⟨x2, y2, w2⟩ := h2.str
  obtain rfl := (List.cons.inj y2).1
  have hn := h.nil
  exact ⟨x0, x1, x2, by rw [e0, e1, e2, hn]; try rfl, w0, w1, w2⟩
end Go.Proofs.YtiliognepodhnaaGreatDoor
