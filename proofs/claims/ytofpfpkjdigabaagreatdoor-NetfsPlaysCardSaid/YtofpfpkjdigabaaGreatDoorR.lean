import Derived.Test.YtofpfpkjdigabaaGreatDoorS
import Derived.Test.YtofpfpkjdigabaaGreatDoorVmP
namespace Go.Proofs.YtofpfpkjdigabaaGreatDoor
open Go.Vm
set_option autoImplicit false
set_option linter.unusedVariables false
set_option maxRecDepth 100000
def aJ0 : Ty := .st [(.int .i64), .str, .str, (.int .i64), (.int .i64), (.int .i64), (.int .i64), .str]
def aJ1 (x : an3) : Prop := (Lit.int .i64 x.Kind).wf = true ∧ (List.length x.Host ≤ maxLen) ∧ (List.length x.User ≤ maxLen) ∧ (Lit.int .i64 x.Id).wf = true ∧ (Lit.int .i64 x.Mode).wf = true ∧ (Lit.int .i64 x.Offset).wf = true ∧ (Lit.int .i64 x.Count).wf = true ∧ (List.length x.Text ≤ maxLen)
theorem bB6 {ps : List PV} (h : Has aJ0 ps) : ∃ x : an3, ps = (zE9 x).cells ∧ aJ1 x := by
  have h := h.st
  obtain ⟨a0, b0, e0, h0, h⟩ := h.cons
  obtain ⟨x0, rfl, w0⟩ := h0.int
  obtain ⟨a1, b1, e1, h1, h⟩ := h.cons
  obtain ⟨x1, rfl, w1⟩ := h1.str
  obtain ⟨a2, b2, e2, h2, h⟩ := h.cons
  obtain ⟨x2, rfl, w2⟩ := h2.str
  obtain ⟨a3, b3, e3, h3, h⟩ := h.cons
  obtain ⟨x3, rfl, w3⟩ := h3.int
  obtain ⟨a4, b4, e4, h4, h⟩ := h.cons
  obtain ⟨x4, rfl, w4⟩ := h4.int
  obtain ⟨a5, b5, e5, h5, h⟩ := h.cons
  obtain ⟨x5, rfl, w5⟩ := h5.int
  obtain ⟨a6, b6, e6, h6, h⟩ := h.cons
  obtain ⟨x6, rfl, w6⟩ := h6.int
  obtain ⟨a7, b7, e7, h7, h⟩ := h.cons
  obtain ⟨x7, rfl, w7⟩ := h7.str
  have hn := h.nil
  exact ⟨⟨x0, x1, x2, x3, x4, x5, x6, x7⟩, by rw [e0, e1, e2, e3, e4, e5, e6, e7, hn]; try rfl, ⟨w0, w1, w2, w3, w4, w5, w6, w7⟩⟩
theorem bJ1 {p : PV} (hf : p.fits (some 8) = true) (h : Has aJ0 p.cells) : ∃ x : an3, p = zE9 x ∧ aJ1 x := by
  obtain ⟨x, h1, h2⟩ := bB6 h
  exact ⟨x, by rw [cd4 hf, h1]; rfl, h2⟩
theorem args5 {qs : List PV} (h : HasArgs [(.sl aJ0)] qs) : ∃ (ops : (List an3)), qs = [.sl (some 8) (List.map zE9 ops)] ∧ (List.length ops ≤ bp3 ∧ ∀ y ∈ ops, aJ1 y) := by
  obtain ⟨q0, r0, e0, f0, h0, h⟩ := h.cons
  rw [cd5 f0] at h0
  obtain ⟨x0, y0, w0, z0⟩ := h0.sl (fun p hf h => bJ1 hf h)
  obtain rfl := (List.cons.inj y0).1
  have hn := h.nil
  exact ⟨x0, by rw [e0, hn]; try rfl, ⟨w0, z0⟩⟩
end Go.Proofs.YtofpfpkjdigabaaGreatDoor
