import Derived.Test.YtiliognepodhnaaGreatDoorS
import Derived.Test.YtiliognepodhnaaGreatDoorVmP
namespace Go.Proofs.YtiliognepodhnaaGreatDoor
open Go.Vm
set_option autoImplicit false
set_option linter.unusedVariables false
set_option maxRecDepth 100000
def aL0 : Ty := .st [.str, .str, .bool]
def aC6 (x : aa1) : Prop := (List.length x.Name ≤ maxLen) ∧ (List.length x.Value ≤ maxLen) ∧ True
theorem bJ7 {ps : List PV} (h : Has aL0 ps) : ∃ x : aa1, ps = (zE1 x).cells ∧ aC6 x := by
  have h := h.st
  obtain ⟨a0, b0, e0, h0, h⟩ := h.cons
  obtain ⟨x0, rfl, w0⟩ := h0.str
  obtain ⟨a1, b1, e1, h1, h⟩ := h.cons
  obtain ⟨x1, rfl, w1⟩ := h1.str
  obtain ⟨a2, b2, e2, h2, h⟩ := h.cons
  obtain ⟨x2, rfl⟩ := h2.bool
  have hn := h.nil
  exact ⟨⟨x0, x1, x2⟩, by rw [e0, e1, e2, hn]; try rfl, ⟨w0, w1, trivial⟩⟩
theorem a84 {p : PV} (hf : p.fits (some 3) = true) (h : Has aL0 p.cells) : ∃ x : aa1, p = zE1 x ∧ aC6 x := by
  obtain ⟨x, h1, h2⟩ := bJ7 h
  exact ⟨x, by rw [bl3 hf, h1]; rfl, h2⟩
def a85 : Ty := .st [(.int .i64), .str, (.int .i64), (.int .i64), (.int .i64), (.sl aL0), .str, .str, .str, (.int .i64)]
def a86 (x : aa3) : Prop := (Lit.int .i64 x.Id).wf = true ∧ (List.length x.Proto ≤ maxLen) ∧ (Lit.int .i64 x.Role).wf = true ∧ (Lit.int .i64 x.Phase).wf = true ∧ (Lit.int .i64 x.Step).wf = true ∧ (List.length x.Key ≤ aW7 ∧ ∀ y ∈ x.Key, aC6 y) ∧ (List.length x.Own ≤ maxLen) ∧ (List.length x.Peer ≤ maxLen) ∧ (List.length x.User ≤ maxLen) ∧ (Lit.int .i64 x.Err).wf = true
theorem bJ8 {ps : List PV} (h : Has a85 ps) : ∃ x : aa3, ps = (zE2 x).cells ∧ a86 x := by
  have h := h.st
  obtain ⟨a0, b0, e0, h0, h⟩ := h.cons
  obtain ⟨x0, rfl, w0⟩ := h0.int
  obtain ⟨a1, b1, e1, h1, h⟩ := h.cons
  obtain ⟨x1, rfl, w1⟩ := h1.str
  obtain ⟨a2, b2, e2, h2, h⟩ := h.cons
  obtain ⟨x2, rfl, w2⟩ := h2.int
  obtain ⟨a3, b3, e3, h3, h⟩ := h.cons
  obtain ⟨x3, rfl, w3⟩ := h3.int
  obtain ⟨a4, b4, e4, h4, h⟩ := h.cons
  obtain ⟨x4, rfl, w4⟩ := h4.int
  obtain ⟨a5, b5, e5, h5, h⟩ := h.cons
  obtain ⟨x5, rfl, w5, q5⟩ := h5.sl (fun p hf h => a84 hf h)
  obtain ⟨a6, b6, e6, h6, h⟩ := h.cons
  obtain ⟨x6, rfl, w6⟩ := h6.str
  obtain ⟨a7, b7, e7, h7, h⟩ := h.cons
  obtain ⟨x7, rfl, w7⟩ := h7.str
  obtain ⟨a8, b8, e8, h8, h⟩ := h.cons
  obtain ⟨x8, rfl, w8⟩ := h8.str
  obtain ⟨a9, b9, e9, h9, h⟩ := h.cons
  obtain ⟨x9, rfl, w9⟩ := h9.int
  have hn := h.nil
  exact ⟨⟨x0, x1, x2, x3, x4, x5, x6, x7, x8, x9⟩, by rw [e0, e1, e2, e3, e4, e5, e6, e7, e8, e9, hn]; try rfl, ⟨w0, w1, w2, w3, w4, ⟨w5, q5⟩, w6, w7, w8, w9⟩⟩
theorem bQ7 {p : PV} (hf : p.fits (some 10) = true) (h : Has a85 p.cells) : ∃ x : aa3, p = zE2 x ∧ a86 x := by
  obtain ⟨x, h1, h2⟩ := bJ8 h
  exact ⟨x, by rw [bl3 hf, h1]; rfl, h2⟩
def aF1 : Ty := .st [.str, .str, (.sl (.sl aL0)), (.int .i64), (.sl a85), (.int .i64)]
def aF2 (x : aa2) : Prop := (List.length x.Owner ≤ maxLen) ∧ (List.length x.Seed ≤ maxLen) ∧ (List.length x.Keys ≤ aW7 ∧ ∀ y ∈ x.Keys, (List.length y ≤ aW7 ∧ ∀ z ∈ y, aC6 z)) ∧ (Lit.int .i64 x.Next).wf = true ∧ (List.length x.Convs ≤ aW7 ∧ ∀ y ∈ x.Convs, a86 y) ∧ (Lit.int .i64 x.Count).wf = true
theorem bD8 {ps : List PV} (h : Has aF1 ps) : ∃ x : aa2, ps = (zE3 x).cells ∧ aF2 x := by
  have h := h.st
  obtain ⟨a0, b0, e0, h0, h⟩ := h.cons
  obtain ⟨x0, rfl, w0⟩ := h0.str
  obtain ⟨a1, b1, e1, h1, h⟩ := h.cons
  obtain ⟨x1, rfl, w1⟩ := h1.str
  obtain ⟨a2, b2, e2, h2, h⟩ := h.cons
  obtain ⟨x2, rfl, w2, q2⟩ := h2.sl (fun p hf h => show ∃ n : (List aa1), p = aa0 n ∧ (List.length n ≤ aW7 ∧ ∀ y ∈ n, aC6 y) from by rw [bX9 hf] at h; obtain ⟨n, e, w, z⟩ := h.sl (fun p hf h => a84 hf h); exact ⟨n, (List.cons.inj e).1, w, z⟩)
  obtain ⟨a3, b3, e3, h3, h⟩ := h.cons
  obtain ⟨x3, rfl, w3⟩ := h3.int
  obtain ⟨a4, b4, e4, h4, h⟩ := h.cons
  obtain ⟨x4, rfl, w4, q4⟩ := h4.sl (fun p hf h => bQ7 hf h)
  obtain ⟨a5, b5, e5, h5, h⟩ := h.cons
  obtain ⟨x5, rfl, w5⟩ := h5.int
  have hn := h.nil
  exact ⟨⟨x0, x1, x2, x3, x4, x5⟩, by rw [e0, e1, e2, e3, e4, e5, hn]; try rfl, ⟨w0, w1, ⟨w2, q2⟩, w3, ⟨w4, q4⟩, w5⟩⟩
theorem bJ9 {p : PV} (hf : p.fits (some 6) = true) (h : Has aF1 p.cells) : ∃ x : aa2, p = zE3 x ∧ aF2 x := by
  obtain ⟨x, h1, h2⟩ := bD8 h
  exact ⟨x, by rw [bl3 hf, h1]; rfl, h2⟩
def aF3 : Ty := .st [(.int .i64), .str, (.int .i64), (.int .i64), (.sl aL0)]
def aN2 (x : aq9) : Prop := (Lit.int .i64 x.Id).wf = true ∧ (List.length x.Name ≤ maxLen) ∧ (Lit.int .i64 x.Offset).wf = true ∧ (Lit.int .i64 x.Count).wf = true ∧ (List.length x.Pattern ≤ aW7 ∧ ∀ y ∈ x.Pattern, aC6 y)
theorem bD9 {ps : List PV} (h : Has aF3 ps) : ∃ x : aq9, ps = (zE6 x).cells ∧ aN2 x := by
  have h := h.st
  obtain ⟨a0, b0, e0, h0, h⟩ := h.cons
  obtain ⟨x0, rfl, w0⟩ := h0.int
  obtain ⟨a1, b1, e1, h1, h⟩ := h.cons
  obtain ⟨x1, rfl, w1⟩ := h1.str
  obtain ⟨a2, b2, e2, h2, h⟩ := h.cons
  obtain ⟨x2, rfl, w2⟩ := h2.int
  obtain ⟨a3, b3, e3, h3, h⟩ := h.cons
  obtain ⟨x3, rfl, w3⟩ := h3.int
  obtain ⟨a4, b4, e4, h4, h⟩ := h.cons
  obtain ⟨x4, rfl, w4, q4⟩ := h4.sl (fun p hf h => a84 hf h)
  have hn := h.nil
  exact ⟨⟨x0, x1, x2, x3, x4⟩, by rw [e0, e1, e2, e3, e4, hn]; try rfl, ⟨w0, w1, w2, w3, ⟨w4, q4⟩⟩⟩
theorem bK0 {p : PV} (hf : p.fits (some 5) = true) (h : Has aF3 p.cells) : ∃ x : aq9, p = zE6 x ∧ aN2 x := by
  obtain ⟨x, h1, h2⟩ := bD9 h
  exact ⟨x, by rw [bl3 hf, h1]; rfl, h2⟩
theorem args7 {qs : List PV} (h : HasArgs [aF1, .str, aF3] qs) : ∃ (a : aa2) (seed : Str) (x_ : aq9), qs = [zE3 a, .str seed, zE6 x_] ∧ aF2 a ∧ (List.length seed ≤ maxLen) ∧ aN2 x_ := by
  obtain ⟨q0, r0, e0, f0, h0, h⟩ := h.cons
  obtain ⟨x0, rfl, w0⟩ := bJ9 f0 h0
  obtain ⟨q1, r1, e1, f1, h1, h⟩ := h.cons
  rw [bX9 f1] at h1
  obtain ⟨x1, y1, w1⟩ := h1.str
  obtain rfl := (List.cons.inj y1).1
  obtain ⟨q2, r2, e2, f2, h2, h⟩ := h.cons
  obtain ⟨x2, rfl, w2⟩ := bK0 f2 h2
  have hn := h.nil
  exact ⟨x0, x1, x2, by rw [e0, e1, e2, hn]; try rfl, w0, w1, w2⟩
end Go.Proofs.YtiliognepodhnaaGreatDoor
