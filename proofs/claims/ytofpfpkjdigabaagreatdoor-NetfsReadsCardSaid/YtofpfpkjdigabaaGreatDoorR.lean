import Derived.Test.YtofpfpkjdigabaaGreatDoorS
import Derived.Test.YtofpfpkjdigabaaGreatDoorVmP
namespace Go.Proofs.YtofpfpkjdigabaaGreatDoor
open Go.Vm
set_option autoImplicit false
set_option linter.unusedVariables false
set_option maxRecDepth 100000
def a41 : Ty := .st [.str, .str, .bool]
def a42 (x : aa5) : Prop := (List.length x.Name ≤ maxLen) ∧ (List.length x.Value ≤ maxLen) ∧ True
theorem bB2 {ps : List PV} (h : Has a41 ps) : ∃ x : aa5, ps = (zE1 x).cells ∧ a42 x := by
  have h := h.st
  obtain ⟨a0, b0, e0, h0, h⟩ := h.cons
  obtain ⟨x0, rfl, w0⟩ := h0.str
  obtain ⟨a1, b1, e1, h1, h⟩ := h.cons
  obtain ⟨x1, rfl, w1⟩ := h1.str
  obtain ⟨a2, b2, e2, h2, h⟩ := h.cons
  obtain ⟨x2, rfl⟩ := h2.bool
  have hn := h.nil
  exact ⟨⟨x0, x1, x2⟩, by rw [e0, e1, e2, hn]; try rfl, ⟨w0, w1, trivial⟩⟩
theorem bI5 {p : PV} (hf : p.fits (some 3) = true) (h : Has a41 p.cells) : ∃ x : aa5, p = zE1 x ∧ a42 x := by
  obtain ⟨x, h1, h2⟩ := bB2 h
  exact ⟨x, by rw [bg5 hf, h1]; rfl, h2⟩
def aW8 : Ty := .st [(.sl a41)]
def aW9 (x : aa3) : Prop := (List.length x.Attrs ≤ bd5 ∧ ∀ y ∈ x.Attrs, a42 y)
theorem bv9 {ps : List PV} (h : Has aW8 ps) : ∃ x : aa3, ps = (zE2 x).cells ∧ aW9 x := by
  have h := h.st
  obtain ⟨a0, b0, e0, h0, h⟩ := h.cons
  obtain ⟨x0, rfl, w0, q0⟩ := h0.sl (fun p hf h => bI5 hf h)
  have hn := h.nil
  exact ⟨⟨x0⟩, by rw [e0, hn]; try rfl, ⟨w0, q0⟩⟩
theorem bB3 {p : PV} (hf : p.fits (some 1) = true) (h : Has aW8 p.cells) : ∃ x : aa3, p = zE2 x ∧ aW9 x := by
  obtain ⟨x, h1, h2⟩ := bv9 h
  exact ⟨x, by rw [bg5 hf, h1]; rfl, h2⟩
def a43 : Ty := .st [.str, .str, .str]
def a44 (x : aa2) : Prop := (List.length x.Net ≤ maxLen) ∧ (List.length x.Host ≤ maxLen) ∧ (List.length x.Service ≤ maxLen)
theorem be2 {ps : List PV} (h : Has a43 ps) : ∃ x : aa2, ps = (zE3 x).cells ∧ a44 x := by
  have h := h.st
  obtain ⟨a0, b0, e0, h0, h⟩ := h.cons
  obtain ⟨x0, rfl, w0⟩ := h0.str
  obtain ⟨a1, b1, e1, h1, h⟩ := h.cons
  obtain ⟨x1, rfl, w1⟩ := h1.str
  obtain ⟨a2, b2, e2, h2, h⟩ := h.cons
  obtain ⟨x2, rfl, w2⟩ := h2.str
  have hn := h.nil
  exact ⟨⟨x0, x1, x2⟩, by rw [e0, e1, e2, hn]; try rfl, ⟨w0, w1, w2⟩⟩
def a45 : Ty := .st [(.int .i64), .str, .str, (.int .i64), a43, a43, (.int .i64), .str, (.sl (.int .i64)), (.int .i64)]
def a47 (x : aa0) : Prop := (Lit.int .i64 x.Id).wf = true ∧ (List.length x.Host ≤ maxLen) ∧ (List.length x.Owner ≤ maxLen) ∧ (Lit.int .i64 x.State).wf = true ∧ a44 x.Local ∧ a44 x.Remote ∧ (Lit.int .i64 x.Peer).wf = true ∧ (List.length x.Data ≤ maxLen) ∧ (List.length x.Backlog ≤ bd5 ∧ ∀ y ∈ x.Backlog, (Lit.int .i64 y).wf = true) ∧ (Lit.int .i64 x.Opens).wf = true
theorem bB4 {ps : List PV} (h : Has a45 ps) : ∃ x : aa0, ps = (zE4 x).cells ∧ a47 x := by
  have h := h.st
  obtain ⟨a0, b0, e0, h0, h⟩ := h.cons
  obtain ⟨x0, rfl, w0⟩ := h0.int
  obtain ⟨a1, b1, e1, h1, h⟩ := h.cons
  obtain ⟨x1, rfl, w1⟩ := h1.str
  obtain ⟨a2, b2, e2, h2, h⟩ := h.cons
  obtain ⟨x2, rfl, w2⟩ := h2.str
  obtain ⟨a3, b3, e3, h3, h⟩ := h.cons
  obtain ⟨x3, rfl, w3⟩ := h3.int
  obtain ⟨a4, b4, e4, h4, h⟩ := h.cons
  obtain ⟨x4, rfl, w4⟩ := be2 h4
  obtain ⟨a5, b5, e5, h5, h⟩ := h.cons
  obtain ⟨x5, rfl, w5⟩ := be2 h5
  obtain ⟨a6, b6, e6, h6, h⟩ := h.cons
  obtain ⟨x6, rfl, w6⟩ := h6.int
  obtain ⟨a7, b7, e7, h7, h⟩ := h.cons
  obtain ⟨x7, rfl, w7⟩ := h7.str
  obtain ⟨a8, b8, e8, h8, h⟩ := h.cons
  obtain ⟨x8, rfl, w8, q8⟩ := h8.sl (fun p hf h => by rw [bg6 hf] at h; obtain ⟨n, e, w⟩ := h.int; exact ⟨n, by simpa using e, w⟩)
  obtain ⟨a9, b9, e9, h9, h⟩ := h.cons
  obtain ⟨x9, rfl, w9⟩ := h9.int
  have hn := h.nil
  exact ⟨⟨x0, x1, x2, x3, x4, x5, x6, x7, x8, x9⟩, by rw [e0, e1, e2, e3, e4, e5, e6, e7, e8, e9, hn]; try rfl, ⟨w0, w1, w2, w3, w4, w5, w6, w7, ⟨w8, q8⟩, w9⟩⟩
theorem bI6 {p : PV} (hf : p.fits (some 14) = true) (h : Has a45 p.cells) : ∃ x : aa0, p = zE4 x ∧ a47 x := by
  obtain ⟨x, h1, h2⟩ := bB4 h
  exact ⟨x, by rw [bg5 hf, h1]; rfl, h2⟩
def aP2 : Ty := .st [(.sl aW8), (.int .i64), (.sl a45)]
def a05 (x : aa1) : Prop := (List.length x.Db ≤ bd5 ∧ ∀ y ∈ x.Db, aW9 y) ∧ (Lit.int .i64 x.Next).wf = true ∧ (List.length x.Talks ≤ bd5 ∧ ∀ y ∈ x.Talks, a47 y)
theorem bI7 {ps : List PV} (h : Has aP2 ps) : ∃ x : aa1, ps = (zE5 x).cells ∧ a05 x := by
  have h := h.st
  obtain ⟨a0, b0, e0, h0, h⟩ := h.cons
  obtain ⟨x0, rfl, w0, q0⟩ := h0.sl (fun p hf h => bB3 hf h)
  obtain ⟨a1, b1, e1, h1, h⟩ := h.cons
  obtain ⟨x1, rfl, w1⟩ := h1.int
  obtain ⟨a2, b2, e2, h2, h⟩ := h.cons
  obtain ⟨x2, rfl, w2, q2⟩ := h2.sl (fun p hf h => bI6 hf h)
  have hn := h.nil
  exact ⟨⟨x0, x1, x2⟩, by rw [e0, e1, e2, hn]; try rfl, ⟨⟨w0, q0⟩, w1, ⟨w2, q2⟩⟩⟩
theorem bV6 {p : PV} (hf : p.fits (some 3) = true) (h : Has aP2 p.cells) : ∃ x : aa1, p = zE5 x ∧ a05 x := by
  obtain ⟨x, h1, h2⟩ := bI7 h
  exact ⟨x, by rw [bg5 hf, h1]; rfl, h2⟩
theorem args8 {qs : List PV} (h : HasArgs [aP2, .str, (.int .i64), .str] qs) : ∃ (n : aa1) (host : Str) (id : Int) (name : Str), qs = [zE5 n, .str host, .int .i64 id, .str name] ∧ a05 n ∧ (List.length host ≤ maxLen) ∧ (Lit.int .i64 id).wf = true ∧ (List.length name ≤ maxLen) := by
  obtain ⟨q0, r0, e0, f0, h0, h⟩ := h.cons
  obtain ⟨x0, rfl, w0⟩ := bV6 f0 h0
  obtain ⟨q1, r1, e1, f1, h1, h⟩ := h.cons
  rw [bg6 f1] at h1
  obtain ⟨x1, y1, w1⟩ := h1.str
  obtain rfl := (List.cons.inj y1).1
  obtain ⟨q2, r2, e2, f2, h2, h⟩ := h.cons
  rw [bg6 f2] at h2
  obtain ⟨x2, y2, w2⟩ := h2.int
  obtain rfl := (List.cons.inj y2).1
  obtain ⟨q3, r3, e3, f3, h3, h⟩ := h.cons
  rw [bg6 f3] at h3
  obtain ⟨x3, y3, w3⟩ := h3.str
  obtain rfl := (List.cons.inj y3).1
  have hn := h.nil
  exact ⟨x0, x1, x2, x3, by rw [e0, e1, e2, e3, hn]; try rfl, w0, w1, w2, w3⟩
end Go.Proofs.YtofpfpkjdigabaaGreatDoor
