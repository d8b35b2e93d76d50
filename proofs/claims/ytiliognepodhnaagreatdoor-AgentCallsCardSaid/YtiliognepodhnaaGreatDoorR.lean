import Derived.Test.YtiliognepodhnaaGreatDoorS
import Derived.Test.YtiliognepodhnaaGreatDoorVmP
open List (length)
namespace Go.Proofs.YtiliognepodhnaaGreatDoor
open Go.Vm
set_option linter.unusedVariables false
set_option maxRecDepth 100000
def aZ3 : Ty := .st [.str, .str, .bool]
def aQ3 (x : aa1) : Prop := (length x.Mz ≤ maxLen) ∧ (length x.Value ≤ maxLen) ∧ True
theorem bO6 {ps : List PV} (h : Has aZ3 ps) : ∃ x : aa1, ps = (zE1 x).cells ∧ aQ3 x := by
  have h := h.st
  obtain ⟨a0, b0, e0, h0, h⟩ := h.cons
  obtain ⟨x0, rfl, w0⟩ := h0.str
  obtain ⟨a1, b1, e1, h1, h⟩ := h.cons
  obtain ⟨x1, rfl, w1⟩ := h1.str
  obtain ⟨a2, b2, e2, h2, h⟩ := h.cons
  obtain ⟨x2, rfl⟩ := h2.bool
  have hn := h.nil
  exact ⟨⟨x0, x1, x2⟩, by rw [e0, e1, e2, hn]; try rfl, ⟨w0, w1, trivial⟩⟩
theorem bw8 {p : PV} (hf : p.fits (some 3) = true) (h : Has aZ3 p.cells) : ∃ x : aa1, p = zE1 x ∧ aQ3 x := by
  obtain ⟨x, h1, h2⟩ := bO6 h
  exact ⟨x, by rw [br2 hf, h1]; rfl, h2⟩
def bc5 : Ty := .st [(.int .i64), .str, (.int .i64), (.int .i64), (.int .i64), (.sl aZ3), .str, .str, .str, (.int .i64)]
def bc6 (x : aa3) : Prop := (Lit.int .i64 x.Id).wf = true ∧ (length x.Pz ≤ maxLen) ∧ (Lit.int .i64 x.Rz).wf = true ∧ (Lit.int .i64 x.Hz).wf = true ∧ (Lit.int .i64 x.Step).wf = true ∧ (length x.Key ≤ a99 ∧ ∀ y ∈ x.Key, aQ3 y) ∧ (length x.Own ≤ maxLen) ∧ (length x.Ez ≤ maxLen) ∧ (length x.Uz ≤ maxLen) ∧ (Lit.int .i64 x.Err).wf = true
theorem bO7 {ps : List PV} (h : Has bc5 ps) : ∃ x : aa3, ps = (zE2 x).cells ∧ bc6 x := by
  have h := h.st
  obtain ⟨a0, b0, e0, h0, h⟩ := h.cons
  obtain ⟨x0, rfl, w0⟩ := h0.int
  obtain ⟨a1, b1, e1, h1, h⟩ := h.cons
  obtain ⟨x1, rfl, w1⟩ := h1.str
  obtain ⟨a2, b2, e2, h2, h⟩ := h.cons
  obtain ⟨x2, rfl, w2⟩ := h2.int
  obtain ⟨a3, b3, e3, h3, h⟩ := h.cons
  obtain ⟨x3, rfl, w3⟩ := h3.int
  obtain ⟨a4, b4, e4, h4, h⟩ := h.cons
  obtain ⟨x4, rfl, w4⟩ := h4.int
  obtain ⟨a5, b5, e5, h5, h⟩ := h.cons
  obtain ⟨x5, rfl, w5, q5⟩ := h5.sl (fun p hf h => bw8 hf h)
  obtain ⟨a6, b6, e6, h6, h⟩ := h.cons
  obtain ⟨x6, rfl, w6⟩ := h6.str
  obtain ⟨a7, b7, e7, h7, h⟩ := h.cons
  obtain ⟨x7, rfl, w7⟩ := h7.str
  obtain ⟨a8, b8, e8, h8, h⟩ := h.cons
  obtain ⟨x8, rfl, w8⟩ := h8.str
  obtain ⟨a9, b9, e9, h9, h⟩ := h.cons
  obtain ⟨x9, rfl, w9⟩ := h9.int
  have hn := h.nil
  exact ⟨⟨x0, x1, x2, x3, x4, x5, x6, x7, x8, x9⟩, by rw [e0, e1, e2, e3, e4, e5, e6, e7, e8, e9, hn]; try rfl, ⟨w0, w1, w2, w3, w4, ⟨w5, q5⟩, w6, w7, w8, w9⟩⟩
theorem bV5 {p : PV} (hf : p.fits (some 10) = true) (h : Has bc5 p.cells) : ∃ x : aa3, p = zE2 x ∧ bc6 x := by
  obtain ⟨x, h1, h2⟩ := bO7 h
  exact ⟨x, by rw [br2 hf, h1]; rfl, h2⟩
def aJ6 : Ty := .st [.str, .str, (.sl (.sl aZ3)), (.int .i64), (.sl bc5), (.int .i64)]
def aJ7 (x : aa2) : Prop := (length x.Oz ≤ maxLen) ∧ (length x.Sz ≤ maxLen) ∧ (length x.Kz ≤ a99 ∧ ∀ y ∈ x.Kz, (length y ≤ a99 ∧ ∀ z ∈ y, aQ3 z)) ∧ (Lit.int .i64 x.Xz).wf = true ∧ (length x.Cz ≤ a99 ∧ ∀ y ∈ x.Cz, bc6 y) ∧ (Lit.int .i64 x.Nz).wf = true
theorem bI8 {ps : List PV} (h : Has aJ6 ps) : ∃ x : aa2, ps = (zE3 x).cells ∧ aJ7 x := by
  have h := h.st
  obtain ⟨a0, b0, e0, h0, h⟩ := h.cons
  obtain ⟨x0, rfl, w0⟩ := h0.str
  obtain ⟨a1, b1, e1, h1, h⟩ := h.cons
  obtain ⟨x1, rfl, w1⟩ := h1.str
  obtain ⟨a2, b2, e2, h2, h⟩ := h.cons
  obtain ⟨x2, rfl, w2, q2⟩ := h2.sl (fun p hf h => show ∃ n : (List aa1), p = aa0 n ∧ (length n ≤ a99 ∧ ∀ y ∈ n, aQ3 y) from by rw [cu2 hf] at h; obtain ⟨n, e, w, z⟩ := h.sl (fun p hf h => bw8 hf h); exact ⟨n, (List.cons.inj e).1, w, z⟩)
  obtain ⟨a3, b3, e3, h3, h⟩ := h.cons
  obtain ⟨x3, rfl, w3⟩ := h3.int
  obtain ⟨a4, b4, e4, h4, h⟩ := h.cons
  obtain ⟨x4, rfl, w4, q4⟩ := h4.sl (fun p hf h => bV5 hf h)
  obtain ⟨a5, b5, e5, h5, h⟩ := h.cons
  obtain ⟨x5, rfl, w5⟩ := h5.int
  have hn := h.nil
  exact ⟨⟨x0, x1, x2, x3, x4, x5⟩, by rw [e0, e1, e2, e3, e4, e5, hn]; try rfl, ⟨w0, w1, ⟨w2, q2⟩, w3, ⟨w4, q4⟩, w5⟩⟩
theorem bO8 {p : PV} (hf : p.fits (some 6) = true) (h : Has aJ6 p.cells) : ∃ x : aa2, p = zE3 x ∧ aJ7 x := by
  obtain ⟨x, h1, h2⟩ := bI8 h
  exact ⟨x, by rw [br2 hf, h1]; rfl, h2⟩
def aQ4 : Ty := .st [(.int .i64), (.int .i64), .str, (.int .i64), .str]
def aQ5 (x : ay3) : Prop := (Lit.int .i64 x.Kind).wf = true ∧ (Lit.int .i64 x.Id).wf = true ∧ (length x.Uz ≤ maxLen) ∧ (Lit.int .i64 x.Mode).wf = true ∧ (length x.Text ≤ maxLen)
theorem bO9 {ps : List PV} (h : Has aQ4 ps) : ∃ x : ay3, ps = (zE4 x).cells ∧ aQ5 x := by
  have h := h.st
  obtain ⟨a0, b0, e0, h0, h⟩ := h.cons
  obtain ⟨x0, rfl, w0⟩ := h0.int
  obtain ⟨a1, b1, e1, h1, h⟩ := h.cons
  obtain ⟨x1, rfl, w1⟩ := h1.int
  obtain ⟨a2, b2, e2, h2, h⟩ := h.cons
  obtain ⟨x2, rfl, w2⟩ := h2.str
  obtain ⟨a3, b3, e3, h3, h⟩ := h.cons
  obtain ⟨x3, rfl, w3⟩ := h3.int
  obtain ⟨a4, b4, e4, h4, h⟩ := h.cons
  obtain ⟨x4, rfl, w4⟩ := h4.str
  have hn := h.nil
  exact ⟨⟨x0, x1, x2, x3, x4⟩, by rw [e0, e1, e2, e3, e4, hn]; try rfl, ⟨w0, w1, w2, w3, w4⟩⟩
theorem bV6 {p : PV} (hf : p.fits (some 5) = true) (h : Has aQ4 p.cells) : ∃ x : ay3, p = zE4 x ∧ aQ5 x := by
  obtain ⟨x, h1, h2⟩ := bO9 h
  exact ⟨x, by rw [br2 hf, h1]; rfl, h2⟩
theorem args3 {qs : List PV} (h : HasArgs [aJ6, aQ4] qs) : ∃ (a : aa2) (o : ay3), qs = [zE3 a, zE4 o] ∧ aJ7 a ∧ aQ5 o := by
  obtain ⟨q0, r0, e0, f0, h0, h⟩ := h.cons
  obtain ⟨x0, rfl, w0⟩ := bO8 f0 h0
  obtain ⟨q1, r1, e1, f1, h1, h⟩ := h.cons
  obtain ⟨x1, rfl, w1⟩ := bV6 f1 h1
  have hn := h.nil
  exact ⟨x0, x1, by rw [e0, e1, hn]; try rfl, w0, w1⟩
end Go.Proofs.YtiliognepodhnaaGreatDoor
