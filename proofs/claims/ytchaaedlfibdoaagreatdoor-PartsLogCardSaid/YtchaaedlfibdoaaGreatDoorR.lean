import Derived.Test.YtchaaedlfibdoaaGreatDoorS
import Derived.Test.YtchaaedlfibdoaaGreatDoorVmP
open List (length)
namespace Go.Proofs.YtchaaedlfibdoaaGreatDoor
open Go.Vm
set_option linter.unusedVariables false
set_option maxRecDepth 100000
def aY3 : Ty := .st [.str, .str, (.sl .str)]
def aY4 (x : ab7) : Prop := (length x.Mz ≤ maxLen) ∧ (length x.Leader ≤ maxLen) ∧ (length x.Members ≤ aW2 ∧ ∀ y ∈ x.Members, (length y ≤ maxLen))
theorem by7 {ps : List PV} (h : Has aY3 ps) : ∃ x : ab7, ps = (zE1 x).cells ∧ aY4 x := by
  have h := h.st
  obtain ⟨a0, b0, e0, h0, h⟩ := h.cons
  obtain ⟨x0, rfl, w0⟩ := h0.str
  obtain ⟨a1, b1, e1, h1, h⟩ := h.cons
  obtain ⟨x1, rfl, w1⟩ := h1.str
  obtain ⟨a2, b2, e2, h2, h⟩ := h.cons
  obtain ⟨x2, rfl, w2, q2⟩ := h2.sl (fun p hf h => by rw [br3 hf] at h; obtain ⟨n, e, w⟩ := h.str; exact ⟨n, by simpa using e, w⟩)
  have hn := h.nil
  exact ⟨⟨x0, x1, x2⟩, by rw [e0, e1, e2, hn]; try rfl, ⟨w0, w1, ⟨w2, q2⟩⟩⟩
theorem bG3 {p : PV} (hf : p.fits (some 3) = true) (h : Has aY3 p.cells) : ∃ x : ab7, p = zE1 x ∧ aY4 x := by
  obtain ⟨x, h1, h2⟩ := by7 h
  exact ⟨x, by rw [ba2 hf, h1]; rfl, h2⟩
def aS5 : Ty := .st [.str, (.int .i64), (.int .i64)]
def aS6 (x : af7) : Prop := (length x.Uz ≤ maxLen) ∧ (Lit.int .i64 x.Files).wf = true ∧ (Lit.int .i64 x.Bytes).wf = true
theorem bs0 {ps : List PV} (h : Has aS5 ps) : ∃ x : af7, ps = (zE2 x).cells ∧ aS6 x := by
  have h := h.st
  obtain ⟨a0, b0, e0, h0, h⟩ := h.cons
  obtain ⟨x0, rfl, w0⟩ := h0.str
  obtain ⟨a1, b1, e1, h1, h⟩ := h.cons
  obtain ⟨x1, rfl, w1⟩ := h1.int
  obtain ⟨a2, b2, e2, h2, h⟩ := h.cons
  obtain ⟨x2, rfl, w2⟩ := h2.int
  have hn := h.nil
  exact ⟨⟨x0, x1, x2⟩, by rw [e0, e1, e2, hn]; try rfl, ⟨w0, w1, w2⟩⟩
theorem by8 {p : PV} (hf : p.fits (some 3) = true) (h : Has aS5 p.cells) : ∃ x : af7, p = zE2 x ∧ aS6 x := by
  obtain ⟨x, h1, h2⟩ := bs0 h
  exact ⟨x, by rw [ba2 hf, h1]; rfl, h2⟩
def aY5 : Ty := .st [(.int .i64), (.int .i64), (.int .i64), .str, (.int .i64), .str, .str, .str, (.int .i64), (.int .i64), .str]
def aY6 (x : aa1) : Prop := (Lit.int .i64 x.Id).wf = true ∧ (Lit.int .i64 x.Parent).wf = true ∧ (Lit.int .i64 x.Vers).wf = true ∧ (length x.Mz ≤ maxLen) ∧ (Lit.int .i64 x.Mode).wf = true ∧ (length x.Uid ≤ maxLen) ∧ (length x.Gid ≤ maxLen) ∧ (length x.Muid ≤ maxLen) ∧ (Lit.int .i64 x.Atime).wf = true ∧ (Lit.int .i64 x.Mtime).wf = true ∧ (length x.Data ≤ maxLen)
theorem by9 {ps : List PV} (h : Has aY5 ps) : ∃ x : aa1, ps = (zE3 x).cells ∧ aY6 x := by
  have h := h.st
  obtain ⟨a0, b0, e0, h0, h⟩ := h.cons
  obtain ⟨x0, rfl, w0⟩ := h0.int
  obtain ⟨a1, b1, e1, h1, h⟩ := h.cons
  obtain ⟨x1, rfl, w1⟩ := h1.int
  obtain ⟨a2, b2, e2, h2, h⟩ := h.cons
  obtain ⟨x2, rfl, w2⟩ := h2.int
  obtain ⟨a3, b3, e3, h3, h⟩ := h.cons
  obtain ⟨x3, rfl, w3⟩ := h3.str
  obtain ⟨a4, b4, e4, h4, h⟩ := h.cons
  obtain ⟨x4, rfl, w4⟩ := h4.int
  obtain ⟨a5, b5, e5, h5, h⟩ := h.cons
  obtain ⟨x5, rfl, w5⟩ := h5.str
  obtain ⟨a6, b6, e6, h6, h⟩ := h.cons
  obtain ⟨x6, rfl, w6⟩ := h6.str
  obtain ⟨a7, b7, e7, h7, h⟩ := h.cons
  obtain ⟨x7, rfl, w7⟩ := h7.str
  obtain ⟨a8, b8, e8, h8, h⟩ := h.cons
  obtain ⟨x8, rfl, w8⟩ := h8.int
  obtain ⟨a9, b9, e9, h9, h⟩ := h.cons
  obtain ⟨x9, rfl, w9⟩ := h9.int
  obtain ⟨a10, b10, e10, h10, h⟩ := h.cons
  obtain ⟨x10, rfl, w10⟩ := h10.str
  have hn := h.nil
  exact ⟨⟨x0, x1, x2, x3, x4, x5, x6, x7, x8, x9, x10⟩, by rw [e0, e1, e2, e3, e4, e5, e6, e7, e8, e9, e10, hn]; try rfl, ⟨w0, w1, w2, w3, w4, w5, w6, w7, w8, w9, w10⟩⟩
theorem bG4 {p : PV} (hf : p.fits (some 11) = true) (h : Has aY5 p.cells) : ∃ x : aa1, p = zE3 x ∧ aY6 x := by
  obtain ⟨x, h1, h2⟩ := by9 h
  exact ⟨x, by rw [ba2 hf, h1]; rfl, h2⟩
def bg8 : Ty := .st [(.int .i64), (.sl aY5)]
def aY7 (x : aa3) : Prop := (Lit.int .i64 x.Xz).wf = true ∧ (length x.Nodes ≤ aW2 ∧ ∀ y ∈ x.Nodes, aY6 y)
theorem bz0 {ps : List PV} (h : Has bg8 ps) : ∃ x : aa3, ps = (zE4 x).cells ∧ aY7 x := by
  have h := h.st
  obtain ⟨a0, b0, e0, h0, h⟩ := h.cons
  obtain ⟨x0, rfl, w0⟩ := h0.int
  obtain ⟨a1, b1, e1, h1, h⟩ := h.cons
  obtain ⟨x1, rfl, w1, q1⟩ := h1.sl (fun p hf h => bG4 hf h)
  have hn := h.nil
  exact ⟨⟨x0, x1⟩, by rw [e0, e1, hn]; try rfl, ⟨w0, ⟨w1, q1⟩⟩⟩
def aw4 : Ty := .st [(.sl aY3), (.sl aS5), bg8, (.sl (.int .i64))]
def aC0 (x : ab6) : Prop := (length x.Users ≤ aW2 ∧ ∀ y ∈ x.Users, aY4 y) ∧ (length x.Quotas ≤ aW2 ∧ ∀ y ∈ x.Quotas, aS6 y) ∧ aY7 x.Tree ∧ (length x.Excl ≤ aW2 ∧ ∀ y ∈ x.Excl, (Lit.int .i64 y).wf = true)
theorem bg9 {ps : List PV} (h : Has aw4 ps) : ∃ x : ab6, ps = (zE5 x).cells ∧ aC0 x := by
  have h := h.st
  obtain ⟨a0, b0, e0, h0, h⟩ := h.cons
  obtain ⟨x0, rfl, w0, q0⟩ := h0.sl (fun p hf h => bG3 hf h)
  obtain ⟨a1, b1, e1, h1, h⟩ := h.cons
  obtain ⟨x1, rfl, w1, q1⟩ := h1.sl (fun p hf h => by8 hf h)
  obtain ⟨a2, b2, e2, h2, h⟩ := h.cons
  obtain ⟨x2, rfl, w2⟩ := bz0 h2
  obtain ⟨a3, b3, e3, h3, h⟩ := h.cons
  obtain ⟨x3, rfl, w3, q3⟩ := h3.sl (fun p hf h => by rw [br3 hf] at h; obtain ⟨n, e, w⟩ := h.int; exact ⟨n, by simpa using e, w⟩)
  have hn := h.nil
  exact ⟨⟨x0, x1, x2, x3⟩, by rw [e0, e1, e2, e3, hn]; try rfl, ⟨⟨w0, q0⟩, ⟨w1, q1⟩, w2, ⟨w3, q3⟩⟩⟩
theorem bk5 {p : PV} (hf : p.fits (some 5) = true) (h : Has aw4 p.cells) : ∃ x : ab6, p = zE5 x ∧ aC0 x := by
  obtain ⟨x, h1, h2⟩ := bg9 h
  exact ⟨x, by rw [ba2 hf, h1]; rfl, h2⟩
theorem args3 {qs : List PV} (h : HasArgs [aw4, (.int .i64)] qs) : ∃ (f : ab6) (now : Int), qs = [zE5 f, .int .i64 now] ∧ aC0 f ∧ (Lit.int .i64 now).wf = true := by
  obtain ⟨q0, r0, e0, f0, h0, h⟩ := h.cons
  obtain ⟨x0, rfl, w0⟩ := bk5 f0 h0
  obtain ⟨q1, r1, e1, f1, h1, h⟩ := h.cons
  rw [br3 f1] at h1
  obtain ⟨x1, y1, w1⟩ := h1.int
  obtain rfl := (List.cons.inj y1).1
  have hn := h.nil
  exact ⟨x0, x1, by rw [e0, e1, hn]; try rfl, w0, w1⟩
end Go.Proofs.YtchaaedlfibdoaaGreatDoor
