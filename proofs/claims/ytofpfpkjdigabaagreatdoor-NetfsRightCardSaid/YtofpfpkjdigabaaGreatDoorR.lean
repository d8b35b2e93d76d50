import Derived.Test.YtofpfpkjdigabaaGreatDoorS
import Derived.Test.YtofpfpkjdigabaaGreatDoorVmP
namespace Go.Proofs.YtofpfpkjdigabaaGreatDoor
open Go.Vm
set_option autoImplicit false
set_option linter.unusedVariables false
set_option maxRecDepth 100000
def a27 : Ty := .st [.str, .str, .bool]
def a28 (x : aa4) : Prop := (List.length x.Name ≤ maxLen) ∧ (List.length x.Value ≤ maxLen) ∧ True
theorem bz7 {ps : List PV} (h : Has a27 ps) : ∃ x : aa4, ps = (zE1 x).cells ∧ a28 x := by
  have h := h.st
  obtain ⟨a0, b0, e0, h0, h⟩ := h.cons
  obtain ⟨x0, rfl, w0⟩ := h0.str
  obtain ⟨a1, b1, e1, h1, h⟩ := h.cons
  obtain ⟨x1, rfl, w1⟩ := h1.str
  obtain ⟨a2, b2, e2, h2, h⟩ := h.cons
  obtain ⟨x2, rfl⟩ := h2.bool
  have hn := h.nil
  exact ⟨⟨x0, x1, x2⟩, by rw [e0, e1, e2, hn]; try rfl, ⟨w0, w1, trivial⟩⟩
theorem bG1 {p : PV} (hf : p.fits (some 3) = true) (h : Has a27 p.cells) : ∃ x : aa4, p = zE1 x ∧ a28 x := by
  obtain ⟨x, h1, h2⟩ := bz7 h
  exact ⟨x, by rw [bf6 hf, h1]; rfl, h2⟩
def aU9 : Ty := .st [(.sl a27)]
def aV0 (x : aa3) : Prop := (List.length x.Attrs ≤ bc6 ∧ ∀ y ∈ x.Attrs, a28 y)
theorem bu7 {ps : List PV} (h : Has aU9 ps) : ∃ x : aa3, ps = (zE2 x).cells ∧ aV0 x := by
  have h := h.st
  obtain ⟨a0, b0, e0, h0, h⟩ := h.cons
  obtain ⟨x0, rfl, w0, q0⟩ := h0.sl (fun p hf h => bG1 hf h)
  have hn := h.nil
  exact ⟨⟨x0⟩, by rw [e0, hn]; try rfl, ⟨w0, q0⟩⟩
theorem bz8 {p : PV} (hf : p.fits (some 1) = true) (h : Has aU9 p.cells) : ∃ x : aa3, p = zE2 x ∧ aV0 x := by
  obtain ⟨x, h1, h2⟩ := bu7 h
  exact ⟨x, by rw [bf6 hf, h1]; rfl, h2⟩
def a29 : Ty := .st [.str, .str, .str]
def a30 (x : aa2) : Prop := (List.length x.Net ≤ maxLen) ∧ (List.length x.Host ≤ maxLen) ∧ (List.length x.Service ≤ maxLen)
theorem bd3 {ps : List PV} (h : Has a29 ps) : ∃ x : aa2, ps = (zE3 x).cells ∧ a30 x := by
  have h := h.st
  obtain ⟨a0, b0, e0, h0, h⟩ := h.cons
  obtain ⟨x0, rfl, w0⟩ := h0.str
  obtain ⟨a1, b1, e1, h1, h⟩ := h.cons
  obtain ⟨x1, rfl, w1⟩ := h1.str
  obtain ⟨a2, b2, e2, h2, h⟩ := h.cons
  obtain ⟨x2, rfl, w2⟩ := h2.str
  have hn := h.nil
  exact ⟨⟨x0, x1, x2⟩, by rw [e0, e1, e2, hn]; try rfl, ⟨w0, w1, w2⟩⟩
def a32 : Ty := .st [(.int .i64), .str, .str, (.int .i64), a29, a29, (.int .i64), .str, (.sl (.int .i64)), (.int .i64)]
def a33 (x : aa0) : Prop := (Lit.int .i64 x.Id).wf = true ∧ (List.length x.Host ≤ maxLen) ∧ (List.length x.Owner ≤ maxLen) ∧ (Lit.int .i64 x.State).wf = true ∧ a30 x.Local ∧ a30 x.Remote ∧ (Lit.int .i64 x.Peer).wf = true ∧ (List.length x.Data ≤ maxLen) ∧ (List.length x.Backlog ≤ bc6 ∧ ∀ y ∈ x.Backlog, (Lit.int .i64 y).wf = true) ∧ (Lit.int .i64 x.Opens).wf = true
theorem bz9 {ps : List PV} (h : Has a32 ps) : ∃ x : aa0, ps = (zE4 x).cells ∧ a33 x := by
  have h := h.st
  obtain ⟨a0, b0, e0, h0, h⟩ := h.cons
  obtain ⟨x0, rfl, w0⟩ := h0.int
  obtain ⟨a1, b1, e1, h1, h⟩ := h.cons
  obtain ⟨x1, rfl, w1⟩ := h1.str
  obtain ⟨a2, b2, e2, h2, h⟩ := h.cons
  obtain ⟨x2, rfl, w2⟩ := h2.str
  obtain ⟨a3, b3, e3, h3, h⟩ := h.cons
  obtain ⟨x3, rfl, w3⟩ := h3.int
  obtain ⟨a4, b4, e4, h4, h⟩ := h.cons
  obtain ⟨x4, rfl, w4⟩ := bd3 h4
  obtain ⟨a5, b5, e5, h5, h⟩ := h.cons
  obtain ⟨x5, rfl, w5⟩ := bd3 h5
  obtain ⟨a6, b6, e6, h6, h⟩ := h.cons
  obtain ⟨x6, rfl, w6⟩ := h6.int
  obtain ⟨a7, b7, e7, h7, h⟩ := h.cons
  obtain ⟨x7, rfl, w7⟩ := h7.str
  obtain ⟨a8, b8, e8, h8, h⟩ := h.cons
  obtain ⟨x8, rfl, w8, q8⟩ := h8.sl (fun p hf h => by rw [ca3 hf] at h; obtain ⟨n, e, w⟩ := h.int; exact ⟨n, by simpa using e, w⟩)
  obtain ⟨a9, b9, e9, h9, h⟩ := h.cons
  obtain ⟨x9, rfl, w9⟩ := h9.int
  have hn := h.nil
  exact ⟨⟨x0, x1, x2, x3, x4, x5, x6, x7, x8, x9⟩, by rw [e0, e1, e2, e3, e4, e5, e6, e7, e8, e9, hn]; try rfl, ⟨w0, w1, w2, w3, w4, w5, w6, w7, ⟨w8, q8⟩, w9⟩⟩
theorem bG2 {p : PV} (hf : p.fits (some 14) = true) (h : Has a32 p.cells) : ∃ x : aa0, p = zE4 x ∧ a33 x := by
  obtain ⟨x, h1, h2⟩ := bz9 h
  exact ⟨x, by rw [bf6 hf, h1]; rfl, h2⟩
def aN2 : Ty := .st [(.sl aU9), (.int .i64), (.sl a32)]
def aY7 (x : aa1) : Prop := (List.length x.Db ≤ bc6 ∧ ∀ y ∈ x.Db, aV0 y) ∧ (Lit.int .i64 x.Next).wf = true ∧ (List.length x.Talks ≤ bc6 ∧ ∀ y ∈ x.Talks, a33 y)
theorem bG3 {ps : List PV} (h : Has aN2 ps) : ∃ x : aa1, ps = (zE5 x).cells ∧ aY7 x := by
  have h := h.st
  obtain ⟨a0, b0, e0, h0, h⟩ := h.cons
  obtain ⟨x0, rfl, w0, q0⟩ := h0.sl (fun p hf h => bz8 hf h)
  obtain ⟨a1, b1, e1, h1, h⟩ := h.cons
  obtain ⟨x1, rfl, w1⟩ := h1.int
  obtain ⟨a2, b2, e2, h2, h⟩ := h.cons
  obtain ⟨x2, rfl, w2, q2⟩ := h2.sl (fun p hf h => bG2 hf h)
  have hn := h.nil
  exact ⟨⟨x0, x1, x2⟩, by rw [e0, e1, e2, hn]; try rfl, ⟨⟨w0, q0⟩, w1, ⟨w2, q2⟩⟩⟩
theorem bS9 {p : PV} (hf : p.fits (some 3) = true) (h : Has aN2 p.cells) : ∃ x : aa1, p = zE5 x ∧ aY7 x := by
  obtain ⟨x, h1, h2⟩ := bG3 h
  exact ⟨x, by rw [bf6 hf, h1]; rfl, h2⟩
theorem args3 {qs : List PV} (h : HasArgs [aN2] qs) : ∃ (n : aa1), qs = [zE5 n] ∧ aY7 n := by
  obtain ⟨q0, r0, e0, f0, h0, h⟩ := h.cons
  obtain ⟨x0, rfl, w0⟩ := bS9 f0 h0
  have hn := h.nil
  exact ⟨x0, by rw [e0, hn]; try rfl, w0⟩
end Go.Proofs.YtofpfpkjdigabaaGreatDoor
