import Derived.Test.YtiliognepodhnaaGreatDoorS
import Derived.Test.YtiliognepodhnaaGreatDoorVmP
namespace Go.Proofs.YtiliognepodhnaaGreatDoor
open Go.Vm
set_option autoImplicit false
set_option linter.unusedVariables false
set_option maxRecDepth 100000
def aM4 : Ty := .st [.str, .str, .bool]
def aD6 (x : aa1) : Prop := (List.length x.Name ≤ maxLen) ∧ (List.length x.Value ≤ maxLen) ∧ True
theorem bL1 {ps : List PV} (h : Has aM4 ps) : ∃ x : aa1, ps = (zE1 x).cells ∧ aD6 x := by
  have h := h.st
  obtain ⟨a0, b0, e0, h0, h⟩ := h.cons
  obtain ⟨x0, rfl, w0⟩ := h0.str
  obtain ⟨a1, b1, e1, h1, h⟩ := h.cons
  obtain ⟨x1, rfl, w1⟩ := h1.str
  obtain ⟨a2, b2, e2, h2, h⟩ := h.cons
  obtain ⟨x2, rfl⟩ := h2.bool
  have hn := h.nil
  exact ⟨⟨x0, x1, x2⟩, by rw [e0, e1, e2, hn]; try rfl, ⟨w0, w1, trivial⟩⟩
theorem a91 {p : PV} (hf : p.fits (some 3) = true) (h : Has aM4 p.cells) : ∃ x : aa1, p = zE1 x ∧ aD6 x := by
  obtain ⟨x, h1, h2⟩ := bL1 h
  exact ⟨x, by rw [bm6 hf, h1]; rfl, h2⟩
def a92 : Ty := .st [(.int .i64), .str, (.int .i64), (.int .i64), (.int .i64), (.sl aM4), .str, .str, .str, (.int .i64)]
def a93 (x : aa3) : Prop := (Lit.int .i64 x.Id).wf = true ∧ (List.length x.Proto ≤ maxLen) ∧ (Lit.int .i64 x.Role).wf = true ∧ (Lit.int .i64 x.Phase).wf = true ∧ (Lit.int .i64 x.Step).wf = true ∧ (List.length x.Key ≤ aX8 ∧ ∀ y ∈ x.Key, aD6 y) ∧ (List.length x.Own ≤ maxLen) ∧ (List.length x.Peer ≤ maxLen) ∧ (List.length x.User ≤ maxLen) ∧ (Lit.int .i64 x.Err).wf = true
theorem bL2 {ps : List PV} (h : Has a92 ps) : ∃ x : aa3, ps = (zE2 x).cells ∧ a93 x := by
  have h := h.st
  obtain ⟨a0, b0, e0, h0, h⟩ := h.cons
  obtain ⟨x0, rfl, w0⟩ := h0.int
  obtain ⟨a1, b1, e1, h1, h⟩ := h.cons
  obtain ⟨x1, rfl, w1⟩ := h1.str
  obtain ⟨a2, b2, e2, h2, h⟩ := h.cons
  obtain ⟨x2, rfl, w2⟩ := h2.int
  obtain ⟨a3, b3, e3, h3, h⟩ := h.cons
  obtain ⟨x3, rfl, w3⟩ := h3.int
  obtain ⟨a4, b4, e4, h4, h⟩ := h.cons
  obtain ⟨x4, rfl, w4⟩ := h4.int
  obtain ⟨a5, b5, e5, h5, h⟩ := h.cons
  obtain ⟨x5, rfl, w5, q5⟩ := h5.sl (fun p hf h => a91 hf h)
  obtain ⟨a6, b6, e6, h6, h⟩ := h.cons
  obtain ⟨x6, rfl, w6⟩ := h6.str
  obtain ⟨a7, b7, e7, h7, h⟩ := h.cons
  obtain ⟨x7, rfl, w7⟩ := h7.str
  obtain ⟨a8, b8, e8, h8, h⟩ := h.cons
  obtain ⟨x8, rfl, w8⟩ := h8.str
  obtain ⟨a9, b9, e9, h9, h⟩ := h.cons
  obtain ⟨x9, rfl, w9⟩ := h9.int
  have hn := h.nil
  exact ⟨⟨x0, x1, x2, x3, x4, x5, x6, x7, x8, x9⟩, by rw [e0, e1, e2, e3, e4, e5, e6, e7, e8, e9, hn]; try rfl, ⟨w0, w1, w2, w3, w4, ⟨w5, q5⟩, w6, w7, w8, w9⟩⟩
theorem bR7 {p : PV} (hf : p.fits (some 10) = true) (h : Has a92 p.cells) : ∃ x : aa3, p = zE2 x ∧ a93 x := by
  obtain ⟨x, h1, h2⟩ := bL2 h
  exact ⟨x, by rw [bm6 hf, h1]; rfl, h2⟩
def aG3 : Ty := .st [.str, .str, (.sl (.sl aM4)), (.int .i64), (.sl a92), (.int .i64)]
def aG4 (x : aa2) : Prop := (List.length x.Owner ≤ maxLen) ∧ (List.length x.Seed ≤ maxLen) ∧ (List.length x.Keys ≤ aX8 ∧ ∀ y ∈ x.Keys, (List.length y ≤ aX8 ∧ ∀ z ∈ y, aD6 z)) ∧ (Lit.int .i64 x.Next).wf = true ∧ (List.length x.Convs ≤ aX8 ∧ ∀ y ∈ x.Convs, a93 y) ∧ (Lit.int .i64 x.Count).wf = true
theorem bF4 {ps : List PV} (h : Has aG3 ps) : ∃ x : aa2, ps = (zE3 x).cells ∧ aG4 x := by
  have h := h.st
  obtain ⟨a0, b0, e0, h0, h⟩ := h.cons
  obtain ⟨x0, rfl, w0⟩ := h0.str
  obtain ⟨a1, b1, e1, h1, h⟩ := h.cons
  obtain ⟨x1, rfl, w1⟩ := h1.str
  obtain ⟨a2, b2, e2, h2, h⟩ := h.cons
  obtain ⟨x2, rfl, w2, q2⟩ := h2.sl (fun p hf h => show ∃ n : (List aa1), p = aa0 n ∧ (List.length n ≤ aX8 ∧ ∀ y ∈ n, aD6 y) from by rw [cp2 hf] at h; obtain ⟨n, e, w, z⟩ := h.sl (fun p hf h => a91 hf h); exact ⟨n, (List.cons.inj e).1, w, z⟩)
  obtain ⟨a3, b3, e3, h3, h⟩ := h.cons
  obtain ⟨x3, rfl, w3⟩ := h3.int
  obtain ⟨a4, b4, e4, h4, h⟩ := h.cons
  obtain ⟨x4, rfl, w4, q4⟩ := h4.sl (fun p hf h => bR7 hf h)
  obtain ⟨a5, b5, e5, h5, h⟩ := h.cons
  obtain ⟨x5, rfl, w5⟩ := h5.int
  have hn := h.nil
  exact ⟨⟨x0, x1, x2, x3, x4, x5⟩, by rw [e0, e1, e2, e3, e4, e5, hn]; try rfl, ⟨w0, w1, ⟨w2, q2⟩, w3, ⟨w4, q4⟩, w5⟩⟩
theorem bL3 {p : PV} (hf : p.fits (some 6) = true) (h : Has aG3 p.cells) : ∃ x : aa2, p = zE3 x ∧ aG4 x := by
  obtain ⟨x, h1, h2⟩ := bF4 h
  exact ⟨x, by rw [bm6 hf, h1]; rfl, h2⟩
def aG5 : Ty := .st [(.int .i64), .str, (.int .i64), (.int .i64), (.sl aM4)]
def aO0 (x : ar6) : Prop := (Lit.int .i64 x.Id).wf = true ∧ (List.length x.Name ≤ maxLen) ∧ (Lit.int .i64 x.Offset).wf = true ∧ (Lit.int .i64 x.Count).wf = true ∧ (List.length x.Pattern ≤ aX8 ∧ ∀ y ∈ x.Pattern, aD6 y)
theorem bF5 {ps : List PV} (h : Has aG5 ps) : ∃ x : ar6, ps = (zE6 x).cells ∧ aO0 x := by
  have h := h.st
  obtain ⟨a0, b0, e0, h0, h⟩ := h.cons
  obtain ⟨x0, rfl, w0⟩ := h0.int
  obtain ⟨a1, b1, e1, h1, h⟩ := h.cons
  obtain ⟨x1, rfl, w1⟩ := h1.str
  obtain ⟨a2, b2, e2, h2, h⟩ := h.cons
  obtain ⟨x2, rfl, w2⟩ := h2.int
  obtain ⟨a3, b3, e3, h3, h⟩ := h.cons
  obtain ⟨x3, rfl, w3⟩ := h3.int
  obtain ⟨a4, b4, e4, h4, h⟩ := h.cons
  obtain ⟨x4, rfl, w4, q4⟩ := h4.sl (fun p hf h => a91 hf h)
  have hn := h.nil
  exact ⟨⟨x0, x1, x2, x3, x4⟩, by rw [e0, e1, e2, e3, e4, hn]; try rfl, ⟨w0, w1, w2, w3, ⟨w4, q4⟩⟩⟩
theorem bL4 {p : PV} (hf : p.fits (some 5) = true) (h : Has aG5 p.cells) : ∃ x : ar6, p = zE6 x ∧ aO0 x := by
  obtain ⟨x, h1, h2⟩ := bF5 h
  exact ⟨x, by rw [bm6 hf, h1]; rfl, h2⟩
theorem args4 {qs : List PV} (h : HasArgs [aG3, aG5] qs) : ∃ (a : aa2) (x_ : ar6), qs = [zE3 a, zE6 x_] ∧ aG4 a ∧ aO0 x_ := by
  obtain ⟨q0, r0, e0, f0, h0, h⟩ := h.cons
  obtain ⟨x0, rfl, w0⟩ := bL3 f0 h0
  obtain ⟨q1, r1, e1, f1, h1, h⟩ := h.cons
  obtain ⟨x1, rfl, w1⟩ := bL4 f1 h1
  have hn := h.nil
  exact ⟨x0, x1, by rw [e0, e1, hn]; try rfl, w0, w1⟩
end Go.Proofs.YtiliognepodhnaaGreatDoor
