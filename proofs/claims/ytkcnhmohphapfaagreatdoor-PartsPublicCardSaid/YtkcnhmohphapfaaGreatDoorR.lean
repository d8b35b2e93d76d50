import Derived.Test.YtkcnhmohphapfaaGreatDoorS
import Derived.Test.YtkcnhmohphapfaaGreatDoorVmP
namespace Go.Proofs.YtkcnhmohphapfaaGreatDoor
open Go.Vm
set_option autoImplicit false
set_option linter.unusedVariables false
set_option maxRecDepth 100000
def az1 : Ty := .st [.str, .str, .bool]
def ap2 (x : aa0) : Prop := (List.length x.Name ≤ maxLen) ∧ (List.length x.Value ≤ maxLen) ∧ True
theorem a98 {ps : List PV} (h : Has az1 ps) : ∃ x : aa0, ps = (zE1 x).cells ∧ ap2 x := by
  have h := h.st
  obtain ⟨a0, b0, e0, h0, h⟩ := h.cons
  obtain ⟨x0, rfl, w0⟩ := h0.str
  obtain ⟨a1, b1, e1, h1, h⟩ := h.cons
  obtain ⟨x1, rfl, w1⟩ := h1.str
  obtain ⟨a2, b2, e2, h2, h⟩ := h.cons
  obtain ⟨x2, rfl⟩ := h2.bool
  have hn := h.nil
  exact ⟨⟨x0, x1, x2⟩, by rw [e0, e1, e2, hn]; try rfl, ⟨w0, w1, trivial⟩⟩
theorem aU3 {p : PV} (hf : p.fits (some 3) = true) (h : Has az1 p.cells) : ∃ x : aa0, p = zE1 x ∧ ap2 x := by
  obtain ⟨x, h1, h2⟩ := a98 h
  exact ⟨x, by rw [a28 hf, h1]; rfl, h2⟩
def aF9 : Ty := .st [(.int .i64), .str, (.int .i64), (.int .i64), (.int .i64), (.sl az1), .str, .str, .str, (.int .i64)]
def aG0 (x : aa5) : Prop := (Lit.int .i64 x.Id).wf = true ∧ (List.length x.Proto ≤ maxLen) ∧ (Lit.int .i64 x.Role).wf = true ∧ (Lit.int .i64 x.Phase).wf = true ∧ (Lit.int .i64 x.Step).wf = true ∧ (List.length x.Key ≤ az8 ∧ ∀ y ∈ x.Key, ap2 y) ∧ (List.length x.Own ≤ maxLen) ∧ (List.length x.Peer ≤ maxLen) ∧ (List.length x.User ≤ maxLen) ∧ (Lit.int .i64 x.Err).wf = true
theorem a99 {ps : List PV} (h : Has aF9 ps) : ∃ x : aa5, ps = (zE2 x).cells ∧ aG0 x := by
  have h := h.st
  obtain ⟨a0, b0, e0, h0, h⟩ := h.cons
  obtain ⟨x0, rfl, w0⟩ := h0.int
  obtain ⟨a1, b1, e1, h1, h⟩ := h.cons
  obtain ⟨x1, rfl, w1⟩ := h1.str
  obtain ⟨a2, b2, e2, h2, h⟩ := h.cons
  obtain ⟨x2, rfl, w2⟩ := h2.int
  obtain ⟨a3, b3, e3, h3, h⟩ := h.cons
  obtain ⟨x3, rfl, w3⟩ := h3.int
  obtain ⟨a4, b4, e4, h4, h⟩ := h.cons
  obtain ⟨x4, rfl, w4⟩ := h4.int
  obtain ⟨a5, b5, e5, h5, h⟩ := h.cons
  obtain ⟨x5, rfl, w5, q5⟩ := h5.sl (fun p hf h => aU3 hf h)
  obtain ⟨a6, b6, e6, h6, h⟩ := h.cons
  obtain ⟨x6, rfl, w6⟩ := h6.str
  obtain ⟨a7, b7, e7, h7, h⟩ := h.cons
  obtain ⟨x7, rfl, w7⟩ := h7.str
  obtain ⟨a8, b8, e8, h8, h⟩ := h.cons
  obtain ⟨x8, rfl, w8⟩ := h8.str
  obtain ⟨a9, b9, e9, h9, h⟩ := h.cons
  obtain ⟨x9, rfl, w9⟩ := h9.int
  have hn := h.nil
  exact ⟨⟨x0, x1, x2, x3, x4, x5, x6, x7, x8, x9⟩, by rw [e0, e1, e2, e3, e4, e5, e6, e7, e8, e9, hn]; try rfl, ⟨w0, w1, w2, w3, w4, ⟨w5, q5⟩, w6, w7, w8, w9⟩⟩
theorem bf2 {p : PV} (hf : p.fits (some 10) = true) (h : Has aF9 p.cells) : ∃ x : aa5, p = zE2 x ∧ aG0 x := by
  obtain ⟨x, h1, h2⟩ := a99 h
  exact ⟨x, by rw [a28 hf, h1]; rfl, h2⟩
def aq2 : Ty := .st [.str, .str, (.sl (.sl az1)), (.int .i64), (.sl aF9), (.int .i64)]
def aq3 (x : aa2) : Prop := (List.length x.Owner ≤ maxLen) ∧ (List.length x.Seed ≤ maxLen) ∧ (List.length x.Keys ≤ az8 ∧ ∀ y ∈ x.Keys, (List.length y ≤ az8 ∧ ∀ z ∈ y, ap2 z)) ∧ (Lit.int .i64 x.Next).wf = true ∧ (List.length x.Convs ≤ az8 ∧ ∀ y ∈ x.Convs, aG0 y) ∧ (Lit.int .i64 x.Count).wf = true
theorem a39 {ps : List PV} (h : Has aq2 ps) : ∃ x : aa2, ps = (zE3 x).cells ∧ aq3 x := by
  have h := h.st
  obtain ⟨a0, b0, e0, h0, h⟩ := h.cons
  obtain ⟨x0, rfl, w0⟩ := h0.str
  obtain ⟨a1, b1, e1, h1, h⟩ := h.cons
  obtain ⟨x1, rfl, w1⟩ := h1.str
  obtain ⟨a2, b2, e2, h2, h⟩ := h.cons
  obtain ⟨x2, rfl, w2, q2⟩ := h2.sl (fun p hf h => show ∃ n : (List aa0), p = aa1 n ∧ (List.length n ≤ az8 ∧ ∀ y ∈ n, ap2 y) from by rw [bG8 hf] at h; obtain ⟨n, e, w, z⟩ := h.sl (fun p hf h => aU3 hf h); exact ⟨n, (List.cons.inj e).1, w, z⟩)
  obtain ⟨a3, b3, e3, h3, h⟩ := h.cons
  obtain ⟨x3, rfl, w3⟩ := h3.int
  obtain ⟨a4, b4, e4, h4, h⟩ := h.cons
  obtain ⟨x4, rfl, w4, q4⟩ := h4.sl (fun p hf h => bf2 hf h)
  obtain ⟨a5, b5, e5, h5, h⟩ := h.cons
  obtain ⟨x5, rfl, w5⟩ := h5.int
  have hn := h.nil
  exact ⟨⟨x0, x1, x2, x3, x4, x5⟩, by rw [e0, e1, e2, e3, e4, e5, hn]; try rfl, ⟨w0, w1, ⟨w2, q2⟩, w3, ⟨w4, q4⟩, w5⟩⟩
theorem ba0 {p : PV} (hf : p.fits (some 6) = true) (h : Has aq2 p.cells) : ∃ x : aa2, p = zE3 x ∧ aq3 x := by
  obtain ⟨x, h1, h2⟩ := a39 h
  exact ⟨x, by rw [a28 hf, h1]; rfl, h2⟩
theorem args3 {qs : List PV} (h : HasArgs [aq2] qs) : ∃ (a : aa2), qs = [zE3 a] ∧ aq3 a := by
  obtain ⟨q0, r0, e0, f0, h0, h⟩ := h.cons
  obtain ⟨x0, rfl, w0⟩ := ba0 f0 h0
  have hn := h.nil
  exact ⟨x0, by rw [e0, hn]; try rfl, w0⟩
end Go.Proofs.YtkcnhmohphapfaaGreatDoor
