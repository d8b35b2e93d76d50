import Derived.Test.YteejnomnholelaaGreatDoorS
import Derived.Test.YteejnomnholelaaGreatDoorVmP
namespace Go.Proofs.YteejnomnholelaaGreatDoor
open Go.Vm
set_option autoImplicit false
set_option linter.unusedVariables false
set_option maxRecDepth 100000
def aR0 : Ty := .st [(.int .i64), (.int .i64), (.int .i64), .str, (.int .i64), .str, .str, .str, (.int .i64), (.int .i64), .str]
def aR1 (x : aa1) : Prop := (Lit.int .i64 x.Id).wf = true ∧ (Lit.int .i64 x.Parent).wf = true ∧ (Lit.int .i64 x.Vers).wf = true ∧ (List.length x.Name ≤ maxLen) ∧ (Lit.int .i64 x.Mode).wf = true ∧ (List.length x.Uid ≤ maxLen) ∧ (List.length x.Gid ≤ maxLen) ∧ (List.length x.Muid ≤ maxLen) ∧ (Lit.int .i64 x.Atime).wf = true ∧ (Lit.int .i64 x.Mtime).wf = true ∧ (List.length x.Data ≤ maxLen)
theorem bp7 {ps : List PV} (h : Has aR0 ps) : ∃ x : aa1, ps = (zE1 x).cells ∧ aR1 x := by
  have h := h.st
  obtain ⟨a0, b0, e0, h0, h⟩ := h.cons
  obtain ⟨x0, rfl, w0⟩ := h0.int
  obtain ⟨a1, b1, e1, h1, h⟩ := h.cons
  obtain ⟨x1, rfl, w1⟩ := h1.int
  obtain ⟨a2, b2, e2, h2, h⟩ := h.cons
  obtain ⟨x2, rfl, w2⟩ := h2.int
  obtain ⟨a3, b3, e3, h3, h⟩ := h.cons
  obtain ⟨x3, rfl, w3⟩ := h3.str
  obtain ⟨a4, b4, e4, h4, h⟩ := h.cons
  obtain ⟨x4, rfl, w4⟩ := h4.int
  obtain ⟨a5, b5, e5, h5, h⟩ := h.cons
  obtain ⟨x5, rfl, w5⟩ := h5.str
  obtain ⟨a6, b6, e6, h6, h⟩ := h.cons
  obtain ⟨x6, rfl, w6⟩ := h6.str
  obtain ⟨a7, b7, e7, h7, h⟩ := h.cons
  obtain ⟨x7, rfl, w7⟩ := h7.str
  obtain ⟨a8, b8, e8, h8, h⟩ := h.cons
  obtain ⟨x8, rfl, w8⟩ := h8.int
  obtain ⟨a9, b9, e9, h9, h⟩ := h.cons
  obtain ⟨x9, rfl, w9⟩ := h9.int
  obtain ⟨a10, b10, e10, h10, h⟩ := h.cons
  obtain ⟨x10, rfl, w10⟩ := h10.str
  have hn := h.nil
  exact ⟨⟨x0, x1, x2, x3, x4, x5, x6, x7, x8, x9, x10⟩, by rw [e0, e1, e2, e3, e4, e5, e6, e7, e8, e9, e10, hn]; try rfl, ⟨w0, w1, w2, w3, w4, w5, w6, w7, w8, w9, w10⟩⟩
theorem bw7 {p : PV} (hf : p.fits (some 11) = true) (h : Has aR0 p.cells) : ∃ x : aa1, p = zE1 x ∧ aR1 x := by
  obtain ⟨x, h1, h2⟩ := bp7 h
  exact ⟨x, by rw [bA4 hf, h1]; rfl, h2⟩
def aD3 : Ty := .st [(.int .i64), (.sl aR0)]
def aD4 (x : aa3) : Prop := (Lit.int .i64 x.Next).wf = true ∧ (List.length x.Nodes ≤ bn1 ∧ ∀ y ∈ x.Nodes, aR1 y)
theorem bp8 {ps : List PV} (h : Has aD3 ps) : ∃ x : aa3, ps = (zE2 x).cells ∧ aD4 x := by
  have h := h.st
  obtain ⟨a0, b0, e0, h0, h⟩ := h.cons
  obtain ⟨x0, rfl, w0⟩ := h0.int
  obtain ⟨a1, b1, e1, h1, h⟩ := h.cons
  obtain ⟨x1, rfl, w1, q1⟩ := h1.sl (fun p hf h => bw7 hf h)
  have hn := h.nil
  exact ⟨⟨x0, x1⟩, by rw [e0, e1, hn]; try rfl, ⟨w0, ⟨w1, q1⟩⟩⟩
theorem bw8 {p : PV} (hf : p.fits (some 2) = true) (h : Has aD3 p.cells) : ∃ x : aa3, p = zE2 x ∧ aD4 x := by
  obtain ⟨x, h1, h2⟩ := bp8 h
  exact ⟨x, by rw [bA4 hf, h1]; rfl, h2⟩
theorem args3 {qs : List PV} (h : HasArgs [aD3] qs) : ∃ (t_ : aa3), qs = [zE2 t_] ∧ aD4 t_ := by
  obtain ⟨q0, r0, e0, f0, h0, h⟩ := h.cons
  obtain ⟨x0, rfl, w0⟩ := bw8 f0 h0
  have hn := h.nil
  exact ⟨x0, by rw [e0, hn]; try rfl, w0⟩
end Go.Proofs.YteejnomnholelaaGreatDoor
