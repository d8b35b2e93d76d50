import Derived.Test.YtiliognepodhnaaGreatDoorS
import Derived.Test.YtiliognepodhnaaGreatDoorVmP
open List (length map)
namespace Go.Proofs.YtiliognepodhnaaGreatDoor
open Go.Vm
set_option linter.unusedVariables false
set_option maxRecDepth 100000
def aP5 : Ty := .st [(.int .i64), (.int .i64), .str, (.int .i64), .str]
def aP6 (x : ax7) : Prop := (Lit.int .i64 x.Kind).wf = true ∧ (Lit.int .i64 x.Id).wf = true ∧ (length x.Uz ≤ maxLen) ∧ (Lit.int .i64 x.Mode).wf = true ∧ (length x.Text ≤ maxLen)
theorem bN2 {ps : List PV} (h : Has aP5 ps) : ∃ x : ax7, ps = (zE4 x).cells ∧ aP6 x := by
  have h := h.st
  obtain ⟨a0, b0, e0, h0, h⟩ := h.cons
  obtain ⟨x0, rfl, w0⟩ := h0.int
  obtain ⟨a1, b1, e1, h1, h⟩ := h.cons
  obtain ⟨x1, rfl, w1⟩ := h1.int
  obtain ⟨a2, b2, e2, h2, h⟩ := h.cons
  obtain ⟨x2, rfl, w2⟩ := h2.str
  obtain ⟨a3, b3, e3, h3, h⟩ := h.cons
  obtain ⟨x3, rfl, w3⟩ := h3.int
  obtain ⟨a4, b4, e4, h4, h⟩ := h.cons
  obtain ⟨x4, rfl, w4⟩ := h4.str
  have hn := h.nil
  exact ⟨⟨x0, x1, x2, x3, x4⟩, by rw [e0, e1, e2, e3, e4, hn]; try rfl, ⟨w0, w1, w2, w3, w4⟩⟩
theorem bT8 {p : PV} (hf : p.fits (some 5) = true) (h : Has aP5 p.cells) : ∃ x : ax7, p = zE4 x ∧ aP6 x := by
  obtain ⟨x, h1, h2⟩ := bN2 h
  exact ⟨x, by rw [cs3 hf, h1]; rfl, h2⟩
theorem args5 {qs : List PV} (h : HasArgs [.str, .str, (.sl aP5)] qs) : ∃ (owner : Str) (seed : Str) (l : (List ax7)), qs = [.str owner, .str seed, .sl (some 5) (map zE4 l)] ∧ (length owner ≤ maxLen) ∧ (length seed ≤ maxLen) ∧ (length l ≤ bB8 ∧ ∀ y ∈ l, aP6 y) := by
  obtain ⟨q0, r0, e0, f0, h0, h⟩ := h.cons
  rw [bG7 f0] at h0
  obtain ⟨x0, y0, w0⟩ := h0.str
  obtain rfl := (List.cons.inj y0).1
  obtain ⟨q1, r1, e1, f1, h1, h⟩ := h.cons
  rw [bG7 f1] at h1
  obtain ⟨x1, y1, w1⟩ := h1.str
  obtain rfl := (List.cons.inj y1).1
  obtain ⟨q2, r2, e2, f2, h2, h⟩ := h.cons
  rw [bG7 f2] at h2
  obtain ⟨x2, y2, w2, z2⟩ := h2.sl (fun p hf h => bT8 hf h)
  obtain rfl := (List.cons.inj y2).1
  have hn := h.nil
  exact ⟨x0, x1, x2, by rw [e0, e1, e2, hn]; try rfl, w0, w1, ⟨w2, z2⟩⟩
end Go.Proofs.YtiliognepodhnaaGreatDoor
