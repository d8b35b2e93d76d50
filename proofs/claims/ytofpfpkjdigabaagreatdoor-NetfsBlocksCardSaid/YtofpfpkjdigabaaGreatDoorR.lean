import Derived.Test.YtofpfpkjdigabaaGreatDoorS
import Derived.Test.YtofpfpkjdigabaaGreatDoorVmP
namespace Go.Proofs.YtofpfpkjdigabaaGreatDoor
open Go.Vm
set_option autoImplicit false
set_option linter.unusedVariables false
set_option maxRecDepth 100000
def a57 : Ty := .st [.str, .str, .bool]
def a58 (x : aa4) : Prop := (List.length x.Name ≤ maxLen) ∧ (List.length x.Value ≤ maxLen) ∧ True
theorem bE0 {ps : List PV} (h : Has a57 ps) : ∃ x : aa4, ps = (zE1 x).cells ∧ a58 x := by
  have h := h.st
  obtain ⟨a0, b0, e0, h0, h⟩ := h.cons
  obtain ⟨x0, rfl, w0⟩ := h0.str
  obtain ⟨a1, b1, e1, h1, h⟩ := h.cons
  obtain ⟨x1, rfl, w1⟩ := h1.str
  obtain ⟨a2, b2, e2, h2, h⟩ := h.cons
  obtain ⟨x2, rfl⟩ := h2.bool
  have hn := h.nil
  exact ⟨⟨x0, x1, x2⟩, by rw [e0, e1, e2, hn]; try rfl, ⟨w0, w1, trivial⟩⟩
theorem bM0 {p : PV} (hf : p.fits (some 3) = true) (h : Has a57 p.cells) : ∃ x : aa4, p = zE1 x ∧ a58 x := by
  obtain ⟨x, h1, h2⟩ := bE0 h
  exact ⟨x, by rw [a92 hf, h1]; rfl, h2⟩
def aX5 : Ty := .st [(.sl a57)]
def aX6 (x : aa3) : Prop := (List.length x.Attrs ≤ a28 ∧ ∀ y ∈ x.Attrs, a58 y)
theorem by7 {ps : List PV} (h : Has aX5 ps) : ∃ x : aa3, ps = (zE2 x).cells ∧ aX6 x := by
  have h := h.st
  obtain ⟨a0, b0, e0, h0, h⟩ := h.cons
  obtain ⟨x0, rfl, w0, q0⟩ := h0.sl (fun p hf h => bM0 hf h)
  have hn := h.nil
  exact ⟨⟨x0⟩, by rw [e0, hn]; try rfl, ⟨w0, q0⟩⟩
theorem bE1 {p : PV} (hf : p.fits (some 1) = true) (h : Has aX5 p.cells) : ∃ x : aa3, p = zE2 x ∧ aX6 x := by
  obtain ⟨x, h1, h2⟩ := by7 h
  exact ⟨x, by rw [a92 hf, h1]; rfl, h2⟩
def a59 : Ty := .st [.str, .str, .str]
def a60 (x : aa2) : Prop := (List.length x.Net ≤ maxLen) ∧ (List.length x.Host ≤ maxLen) ∧ (List.length x.Service ≤ maxLen)
theorem bf5 {ps : List PV} (h : Has a59 ps) : ∃ x : aa2, ps = (zE3 x).cells ∧ a60 x := by
  have h := h.st
  obtain ⟨a0, b0, e0, h0, h⟩ := h.cons
  obtain ⟨x0, rfl, w0⟩ := h0.str
  obtain ⟨a1, b1, e1, h1, h⟩ := h.cons
  obtain ⟨x1, rfl, w1⟩ := h1.str
  obtain ⟨a2, b2, e2, h2, h⟩ := h.cons
  obtain ⟨x2, rfl, w2⟩ := h2.str
  have hn := h.nil
  exact ⟨⟨x0, x1, x2⟩, by rw [e0, e1, e2, hn]; try rfl, ⟨w0, w1, w2⟩⟩
def a61 : Ty := .st [(.int .i64), .str, .str, (.int .i64), a59, a59, (.int .i64), .str, (.sl (.int .i64)), (.int .i64)]
def a62 (x : aa0) : Prop := (Lit.int .i64 x.Id).wf = true ∧ (List.length x.Host ≤ maxLen) ∧ (List.length x.Owner ≤ maxLen) ∧ (Lit.int .i64 x.State).wf = true ∧ a60 x.Local ∧ a60 x.Remote ∧ (Lit.int .i64 x.Peer).wf = true ∧ (List.length x.Data ≤ maxLen) ∧ (List.length x.Backlog ≤ a28 ∧ ∀ y ∈ x.Backlog, (Lit.int .i64 y).wf = true) ∧ (Lit.int .i64 x.Opens).wf = true
theorem bE2 {ps : List PV} (h : Has a61 ps) : ∃ x : aa0, ps = (zE4 x).cells ∧ a62 x := by
  have h := h.st
  obtain ⟨a0, b0, e0, h0, h⟩ := h.cons
  obtain ⟨x0, rfl, w0⟩ := h0.int
  obtain ⟨a1, b1, e1, h1, h⟩ := h.cons
  obtain ⟨x1, rfl, w1⟩ := h1.str
  obtain ⟨a2, b2, e2, h2, h⟩ := h.cons
  obtain ⟨x2, rfl, w2⟩ := h2.str
  obtain ⟨a3, b3, e3, h3, h⟩ := h.cons
  obtain ⟨x3, rfl, w3⟩ := h3.int
  obtain ⟨a4, b4, e4, h4, h⟩ := h.cons
  obtain ⟨x4, rfl, w4⟩ := bf5 h4
  obtain ⟨a5, b5, e5, h5, h⟩ := h.cons
  obtain ⟨x5, rfl, w5⟩ := bf5 h5
  obtain ⟨a6, b6, e6, h6, h⟩ := h.cons
  obtain ⟨x6, rfl, w6⟩ := h6.int
  obtain ⟨a7, b7, e7, h7, h⟩ := h.cons
  obtain ⟨x7, rfl, w7⟩ := h7.str
  obtain ⟨a8, b8, e8, h8, h⟩ := h.cons
  obtain ⟨x8, rfl, w8, q8⟩ := h8.sl (fun p hf h => by rw [ch9 hf] at h; obtain ⟨n, e, w⟩ := h.int; exact ⟨n, by simpa using e, w⟩)
  obtain ⟨a9, b9, e9, h9, h⟩ := h.cons
  obtain ⟨x9, rfl, w9⟩ := h9.int
  have hn := h.nil
  exact ⟨⟨x0, x1, x2, x3, x4, x5, x6, x7, x8, x9⟩, by rw [e0, e1, e2, e3, e4, e5, e6, e7, e8, e9, hn]; try rfl, ⟨w0, w1, w2, w3, w4, w5, w6, w7, ⟨w8, q8⟩, w9⟩⟩
theorem bM1 {p : PV} (hf : p.fits (some 14) = true) (h : Has a61 p.cells) : ∃ x : aa0, p = zE4 x ∧ a62 x := by
  obtain ⟨x, h1, h2⟩ := bE2 h
  exact ⟨x, by rw [a92 hf, h1]; rfl, h2⟩
def aQ3 : Ty := .st [(.sl aX5), (.int .i64), (.sl a61)]
def a15 (x : aa1) : Prop := (List.length x.Db ≤ a28 ∧ ∀ y ∈ x.Db, aX6 y) ∧ (Lit.int .i64 x.Next).wf = true ∧ (List.length x.Talks ≤ a28 ∧ ∀ y ∈ x.Talks, a62 y)
theorem bM2 {ps : List PV} (h : Has aQ3 ps) : ∃ x : aa1, ps = (zE5 x).cells ∧ a15 x := by
  have h := h.st
  obtain ⟨a0, b0, e0, h0, h⟩ := h.cons
  obtain ⟨x0, rfl, w0, q0⟩ := h0.sl (fun p hf h => bE1 hf h)
  obtain ⟨a1, b1, e1, h1, h⟩ := h.cons
  obtain ⟨x1, rfl, w1⟩ := h1.int
  obtain ⟨a2, b2, e2, h2, h⟩ := h.cons
  obtain ⟨x2, rfl, w2, q2⟩ := h2.sl (fun p hf h => bM1 hf h)
  have hn := h.nil
  exact ⟨⟨x0, x1, x2⟩, by rw [e0, e1, e2, hn]; try rfl, ⟨⟨w0, q0⟩, w1, ⟨w2, q2⟩⟩⟩
theorem bZ4 {p : PV} (hf : p.fits (some 3) = true) (h : Has aQ3 p.cells) : ∃ x : aa1, p = zE5 x ∧ a15 x := by
  obtain ⟨x, h1, h2⟩ := bM2 h
  exact ⟨x, by rw [a92 hf, h1]; rfl, h2⟩
def aL3 : Ty := .st [(.int .i64), .str, .str, (.int .i64), (.int .i64), (.int .i64), (.int .i64), .str]
def aL4 (x : an4) : Prop := (Lit.int .i64 x.Kind).wf = true ∧ (List.length x.Host ≤ maxLen) ∧ (List.length x.User ≤ maxLen) ∧ (Lit.int .i64 x.Id).wf = true ∧ (Lit.int .i64 x.Mode).wf = true ∧ (Lit.int .i64 x.Offset).wf = true ∧ (Lit.int .i64 x.Count).wf = true ∧ (List.length x.Text ≤ maxLen)
theorem bE3 {ps : List PV} (h : Has aL3 ps) : ∃ x : an4, ps = (zE9 x).cells ∧ aL4 x := by
  have h := h.st
  obtain ⟨a0, b0, e0, h0, h⟩ := h.cons
  obtain ⟨x0, rfl, w0⟩ := h0.int
  obtain ⟨a1, b1, e1, h1, h⟩ := h.cons
  obtain ⟨x1, rfl, w1⟩ := h1.str
  obtain ⟨a2, b2, e2, h2, h⟩ := h.cons
  obtain ⟨x2, rfl, w2⟩ := h2.str
  obtain ⟨a3, b3, e3, h3, h⟩ := h.cons
  obtain ⟨x3, rfl, w3⟩ := h3.int
  obtain ⟨a4, b4, e4, h4, h⟩ := h.cons
  obtain ⟨x4, rfl, w4⟩ := h4.int
  obtain ⟨a5, b5, e5, h5, h⟩ := h.cons
  obtain ⟨x5, rfl, w5⟩ := h5.int
  obtain ⟨a6, b6, e6, h6, h⟩ := h.cons
  obtain ⟨x6, rfl, w6⟩ := h6.int
  obtain ⟨a7, b7, e7, h7, h⟩ := h.cons
  obtain ⟨x7, rfl, w7⟩ := h7.str
  have hn := h.nil
  exact ⟨⟨x0, x1, x2, x3, x4, x5, x6, x7⟩, by rw [e0, e1, e2, e3, e4, e5, e6, e7, hn]; try rfl, ⟨w0, w1, w2, w3, w4, w5, w6, w7⟩⟩
theorem bM3 {p : PV} (hf : p.fits (some 8) = true) (h : Has aL3 p.cells) : ∃ x : an4, p = zE9 x ∧ aL4 x := by
  obtain ⟨x, h1, h2⟩ := bE3 h
  exact ⟨x, by rw [a92 hf, h1]; rfl, h2⟩
theorem args6 {qs : List PV} (h : HasArgs [aQ3, aL3] qs) : ∃ (n : aa1) (o : an4), qs = [zE5 n, zE9 o] ∧ a15 n ∧ aL4 o := by
  obtain ⟨q0, r0, e0, f0, h0, h⟩ := h.cons
  obtain ⟨x0, rfl, w0⟩ := bZ4 f0 h0
  obtain ⟨q1, r1, e1, f1, h1, h⟩ := h.cons
  obtain ⟨x1, rfl, w1⟩ := bM3 f1 h1
  have hn := h.nil
  exact ⟨x0, x1, by rw [e0, e1, hn]; try rfl, w0, w1⟩
end Go.Proofs.YtofpfpkjdigabaaGreatDoor
