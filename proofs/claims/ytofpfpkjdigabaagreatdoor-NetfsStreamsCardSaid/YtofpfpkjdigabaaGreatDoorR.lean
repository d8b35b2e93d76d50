import Derived.Test.YtofpfpkjdigabaaGreatDoorS
import Derived.Test.YtofpfpkjdigabaaGreatDoorVmP
namespace Go.Proofs.YtofpfpkjdigabaaGreatDoor
open Go.Vm
set_option autoImplicit false
set_option linter.unusedVariables false
set_option maxRecDepth 100000
def a34 : Ty := .st [.str, .str, .bool]
def a35 (x : aa4) : Prop := (List.length x.Name ≤ maxLen) ∧ (List.length x.Value ≤ maxLen) ∧ True
theorem bA7 {ps : List PV} (h : Has a34 ps) : ∃ x : aa4, ps = (zE1 x).cells ∧ a35 x := by
  have h := h.st
  obtain ⟨a0, b0, e0, h0, h⟩ := h.cons
  obtain ⟨x0, rfl, w0⟩ := h0.str
  obtain ⟨a1, b1, e1, h1, h⟩ := h.cons
  obtain ⟨x1, rfl, w1⟩ := h1.str
  obtain ⟨a2, b2, e2, h2, h⟩ := h.cons
  obtain ⟨x2, rfl⟩ := h2.bool
  have hn := h.nil
  exact ⟨⟨x0, x1, x2⟩, by rw [e0, e1, e2, hn]; try rfl, ⟨w0, w1, trivial⟩⟩
theorem bH6 {p : PV} (hf : p.fits (some 3) = true) (h : Has a34 p.cells) : ∃ x : aa4, p = zE1 x ∧ a35 x := by
  obtain ⟨x, h1, h2⟩ := bA7 h
  exact ⟨x, by rw [bg3 hf, h1]; rfl, h2⟩
def aV3 : Ty := .st [(.sl a34)]
def aV4 (x : aa3) : Prop := (List.length x.Attrs ≤ a01 ∧ ∀ y ∈ x.Attrs, a35 y)
theorem bv6 {ps : List PV} (h : Has aV3 ps) : ∃ x : aa3, ps = (zE2 x).cells ∧ aV4 x := by
  have h := h.st
  obtain ⟨a0, b0, e0, h0, h⟩ := h.cons
  obtain ⟨x0, rfl, w0, q0⟩ := h0.sl (fun p hf h => bH6 hf h)
  have hn := h.nil
  exact ⟨⟨x0⟩, by rw [e0, hn]; try rfl, ⟨w0, q0⟩⟩
theorem bA8 {p : PV} (hf : p.fits (some 1) = true) (h : Has aV3 p.cells) : ∃ x : aa3, p = zE2 x ∧ aV4 x := by
  obtain ⟨x, h1, h2⟩ := bv6 h
  exact ⟨x, by rw [bg3 hf, h1]; rfl, h2⟩
def a36 : Ty := .st [.str, .str, .str]
def a38 (x : aa2) : Prop := (List.length x.Net ≤ maxLen) ∧ (List.length x.Host ≤ maxLen) ∧ (List.length x.Service ≤ maxLen)
theorem bd8 {ps : List PV} (h : Has a36 ps) : ∃ x : aa2, ps = (zE3 x).cells ∧ a38 x := by
  have h := h.st
  obtain ⟨a0, b0, e0, h0, h⟩ := h.cons
  obtain ⟨x0, rfl, w0⟩ := h0.str
  obtain ⟨a1, b1, e1, h1, h⟩ := h.cons
  obtain ⟨x1, rfl, w1⟩ := h1.str
  obtain ⟨a2, b2, e2, h2, h⟩ := h.cons
  obtain ⟨x2, rfl, w2⟩ := h2.str
  have hn := h.nil
  exact ⟨⟨x0, x1, x2⟩, by rw [e0, e1, e2, hn]; try rfl, ⟨w0, w1, w2⟩⟩
def a39 : Ty := .st [(.int .i64), .str, .str, (.int .i64), a36, a36, (.int .i64), .str, (.sl (.int .i64)), (.int .i64)]
def a40 (x : aa0) : Prop := (Lit.int .i64 x.Id).wf = true ∧ (List.length x.Host ≤ maxLen) ∧ (List.length x.Owner ≤ maxLen) ∧ (Lit.int .i64 x.State).wf = true ∧ a38 x.Local ∧ a38 x.Remote ∧ (Lit.int .i64 x.Peer).wf = true ∧ (List.length x.Data ≤ maxLen) ∧ (List.length x.Backlog ≤ a01 ∧ ∀ y ∈ x.Backlog, (Lit.int .i64 y).wf = true) ∧ (Lit.int .i64 x.Opens).wf = true
theorem bA9 {ps : List PV} (h : Has a39 ps) : ∃ x : aa0, ps = (zE4 x).cells ∧ a40 x := by
  have h := h.st
  obtain ⟨a0, b0, e0, h0, h⟩ := h.cons
  obtain ⟨x0, rfl, w0⟩ := h0.int
  obtain ⟨a1, b1, e1, h1, h⟩ := h.cons
  obtain ⟨x1, rfl, w1⟩ := h1.str
  obtain ⟨a2, b2, e2, h2, h⟩ := h.cons
  obtain ⟨x2, rfl, w2⟩ := h2.str
  obtain ⟨a3, b3, e3, h3, h⟩ := h.cons
  obtain ⟨x3, rfl, w3⟩ := h3.int
  obtain ⟨a4, b4, e4, h4, h⟩ := h.cons
  obtain ⟨x4, rfl, w4⟩ := bd8 h4
  obtain ⟨a5, b5, e5, h5, h⟩ := h.cons
  obtain ⟨x5, rfl, w5⟩ := bd8 h5
  obtain ⟨a6, b6, e6, h6, h⟩ := h.cons
  obtain ⟨x6, rfl, w6⟩ := h6.int
  obtain ⟨a7, b7, e7, h7, h⟩ := h.cons
  obtain ⟨x7, rfl, w7⟩ := h7.str
  obtain ⟨a8, b8, e8, h8, h⟩ := h.cons
  obtain ⟨x8, rfl, w8, q8⟩ := h8.sl (fun p hf h => by rw [bv1 hf] at h; obtain ⟨n, e, w⟩ := h.int; exact ⟨n, by simpa using e, w⟩)
  obtain ⟨a9, b9, e9, h9, h⟩ := h.cons
  obtain ⟨x9, rfl, w9⟩ := h9.int
  have hn := h.nil
  exact ⟨⟨x0, x1, x2, x3, x4, x5, x6, x7, x8, x9⟩, by rw [e0, e1, e2, e3, e4, e5, e6, e7, e8, e9, hn]; try rfl, ⟨w0, w1, w2, w3, w4, w5, w6, w7, ⟨w8, q8⟩, w9⟩⟩
theorem bH7 {p : PV} (hf : p.fits (some 14) = true) (h : Has a39 p.cells) : ∃ x : aa0, p = zE4 x ∧ a40 x := by
  obtain ⟨x, h1, h2⟩ := bA9 h
  exact ⟨x, by rw [bg3 hf, h1]; rfl, h2⟩
def aN7 : Ty := .st [(.sl aV3), (.int .i64), (.sl a39)]
def aZ2 (x : aa1) : Prop := (List.length x.Db ≤ a01 ∧ ∀ y ∈ x.Db, aV4 y) ∧ (Lit.int .i64 x.Next).wf = true ∧ (List.length x.Talks ≤ a01 ∧ ∀ y ∈ x.Talks, a40 y)
theorem bH8 {ps : List PV} (h : Has aN7 ps) : ∃ x : aa1, ps = (zE5 x).cells ∧ aZ2 x := by
  have h := h.st
  obtain ⟨a0, b0, e0, h0, h⟩ := h.cons
  obtain ⟨x0, rfl, w0, q0⟩ := h0.sl (fun p hf h => bA8 hf h)
  obtain ⟨a1, b1, e1, h1, h⟩ := h.cons
  obtain ⟨x1, rfl, w1⟩ := h1.int
  obtain ⟨a2, b2, e2, h2, h⟩ := h.cons
  obtain ⟨x2, rfl, w2, q2⟩ := h2.sl (fun p hf h => bH7 hf h)
  have hn := h.nil
  exact ⟨⟨x0, x1, x2⟩, by rw [e0, e1, e2, hn]; try rfl, ⟨⟨w0, q0⟩, w1, ⟨w2, q2⟩⟩⟩
theorem bU6 {p : PV} (hf : p.fits (some 3) = true) (h : Has aN7 p.cells) : ∃ x : aa1, p = zE5 x ∧ aZ2 x := by
  obtain ⟨x, h1, h2⟩ := bH8 h
  exact ⟨x, by rw [bg3 hf, h1]; rfl, h2⟩
theorem args4 {qs : List PV} (h : HasArgs [aN7, (.int .i64), .str] qs) : ∃ (n : aa1) (id : Int) (data : Str), qs = [zE5 n, .int .i64 id, .str data] ∧ aZ2 n ∧ (Lit.int .i64 id).wf = true ∧ (List.length data ≤ maxLen) := by
  obtain ⟨q0, r0, e0, f0, h0, h⟩ := h.cons
  obtain ⟨x0, rfl, w0⟩ := bU6 f0 h0
  obtain ⟨q1, r1, e1, f1, h1, h⟩ := h.cons
  rw [bv1 f1] at h1
  obtain ⟨x1, y1, w1⟩ := h1.int
  obtain rfl := (List.cons.inj y1).1
  obtain ⟨q2, r2, e2, f2, h2, h⟩ := h.cons
  rw [bv1 f2] at h2
  obtain ⟨x2, y2, w2⟩ := h2.str
  obtain rfl := (List.cons.inj y2).1
  have hn := h.nil
  exact ⟨x0, x1, x2, by rw [e0, e1, e2, hn]; try rfl, w0, w1, w2⟩
end Go.Proofs.YtofpfpkjdigabaaGreatDoor
