/- Arguments of the statements as typed data. -/
import Derived.Test.YtheeafnmkboblaaDoorS
import Derived.Test.YtheeafnmkboblaaDoorVmP
namespace Go.Proofs.YtheeafnmkboblaaDoor
open Go.Vm
set_option autoImplicit false
set_option linter.unusedVariables false
set_option maxRecDepth 100000

theorem args3 {qs : List PV} (h : HasArgs [.str] qs) : ∃ (name : Str), qs = [.str name] ∧ (List.length name ≤ maxLen) := by
  obtain ⟨q0, r0, e0, f0, h0, h⟩ := h.cons
  rw [fits_one f0] at h0
  obtain ⟨x0, y0, w0⟩ := h0.str
  obtain rfl := (List.cons.inj y0).1
  have hn := h.nil
  exact ⟨x0, by rw [e0, hn]; try rfl, w0⟩
theorem args4 {qs : List PV} (h : HasArgs [.str] qs) : ∃ (p : Str), qs = [.str p] ∧ (List.length p ≤ maxLen) := by
  obtain ⟨q0, r0, e0, f0, h0, h⟩ := h.cons
  rw [fits_one f0] at h0
  obtain ⟨x0, y0, w0⟩ := h0.str
  obtain rfl := (List.cons.inj y0).1
  have hn := h.nil
  exact ⟨x0, by rw [e0, hn]; try rfl, w0⟩
theorem args5 {qs : List PV} (h : HasArgs [.str, .str] qs) : ∃ (dir : Str) (p : Str), qs = [.str dir, .str p] ∧ (List.length dir ≤ maxLen) ∧ (List.length p ≤ maxLen) := by
  obtain ⟨q0, r0, e0, f0, h0, h⟩ := h.cons
  rw [fits_one f0] at h0
  obtain ⟨x0, y0, w0⟩ := h0.str
  obtain rfl := (List.cons.inj y0).1
  obtain ⟨q1, r1, e1, f1, h1, h⟩ := h.cons
  rw [fits_one f1] at h1
  obtain ⟨x1, y1, w1⟩ := h1.str
  obtain rfl := (List.cons.inj y1).1
  have hn := h.nil
  exact ⟨x0, x1, by rw [e0, e1, hn]; try rfl, w0, w1⟩
theorem args6 {qs : List PV} (h : HasArgs [.str, .str] qs) : ∃ (dir : Str) (p : Str), qs = [.str dir, .str p] ∧ (List.length dir ≤ maxLen) ∧ (List.length p ≤ maxLen) := by
  obtain ⟨q0, r0, e0, f0, h0, h⟩ := h.cons
  rw [fits_one f0] at h0
  obtain ⟨x0, y0, w0⟩ := h0.str
  obtain rfl := (List.cons.inj y0).1
  obtain ⟨q1, r1, e1, f1, h1, h⟩ := h.cons
  rw [fits_one f1] at h1
  obtain ⟨x1, y1, w1⟩ := h1.str
  obtain rfl := (List.cons.inj y1).1
  have hn := h.nil
  exact ⟨x0, x1, by rw [e0, e1, hn]; try rfl, w0, w1⟩
theorem args7 {qs : List PV} (h : HasArgs [.str] qs) : ∃ (p : Str), qs = [.str p] ∧ (List.length p ≤ maxLen) := by
  obtain ⟨q0, r0, e0, f0, h0, h⟩ := h.cons
  rw [fits_one f0] at h0
  obtain ⟨x0, y0, w0⟩ := h0.str
  obtain rfl := (List.cons.inj y0).1
  have hn := h.nil
  exact ⟨x0, by rw [e0, hn]; try rfl, w0⟩
theorem args8 {qs : List PV} (h : HasArgs [.str, .str, .str] qs) : ∃ (top : Str) (dir : Str) (p : Str), qs = [.str top, .str dir, .str p] ∧ (List.length top ≤ maxLen) ∧ (List.length dir ≤ maxLen) ∧ (List.length p ≤ maxLen) := by
  obtain ⟨q0, r0, e0, f0, h0, h⟩ := h.cons
  rw [fits_one f0] at h0
  obtain ⟨x0, y0, w0⟩ := h0.str
  obtain rfl := (List.cons.inj y0).1
  obtain ⟨q1, r1, e1, f1, h1, h⟩ := h.cons
  rw [fits_one f1] at h1
  obtain ⟨x1, y1, w1⟩ := h1.str
  obtain rfl := (List.cons.inj y1).1
  obtain ⟨q2, r2, e2, f2, h2, h⟩ := h.cons
  rw [fits_one f2] at h2
  obtain ⟨x2, y2, w2⟩ := h2.str
  obtain rfl := (List.cons.inj y2).1
  have hn := h.nil
  exact ⟨x0, x1, x2, by rw [e0, e1, e2, hn]; try rfl, w0, w1, w2⟩
theorem args9 {qs : List PV} (h : HasArgs [.str] qs) : ∃ (p : Str), qs = [.str p] ∧ (List.length p ≤ maxLen) := by
  obtain ⟨q0, r0, e0, f0, h0, h⟩ := h.cons
  rw [fits_one f0] at h0
  obtain ⟨x0, y0, w0⟩ := h0.str
  obtain rfl := (List.cons.inj y0).1
  have hn := h.nil
  exact ⟨x0, by rw [e0, hn]; try rfl, w0⟩
theorem args10 {qs : List PV} (h : HasArgs [.str] qs) : ∃ (p : Str), qs = [.str p] ∧ (List.length p ≤ maxLen) := by
  obtain ⟨q0, r0, e0, f0, h0, h⟩ := h.cons
  rw [fits_one f0] at h0
  obtain ⟨x0, y0, w0⟩ := h0.str
  obtain rfl := (List.cons.inj y0).1
  have hn := h.nil
  exact ⟨x0, by rw [e0, hn]; try rfl, w0⟩
end Go.Proofs.YtheeafnmkboblaaDoor
