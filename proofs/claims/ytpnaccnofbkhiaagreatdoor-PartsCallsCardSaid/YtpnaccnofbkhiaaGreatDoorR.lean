import Derived.Test.YtpnaccnofbkhiaaGreatDoorS
import Derived.Test.YtpnaccnofbkhiaaGreatDoorVmP
namespace Go.Proofs.YtpnaccnofbkhiaaGreatDoor
open Go.Vm
set_option autoImplicit false
set_option linter.unusedVariables false
set_option maxRecDepth 100000
def aN4 : Ty := .st [.str, .str, .bool]
def aG4 (x : aa4) : Prop := (List.length x.Name ≤ maxLen) ∧ (List.length x.Value ≤ maxLen) ∧ True
theorem bk6 {ps : List PV} (h : Has aN4 ps) : ∃ x : aa4, ps = (zE1 x).cells ∧ aG4 x := by
  have h := h.st
  obtain ⟨a0, b0, e0, h0, h⟩ := h.cons
  obtain ⟨x0, rfl, w0⟩ := h0.str
  obtain ⟨a1, b1, e1, h1, h⟩ := h.cons
  obtain ⟨x1, rfl, w1⟩ := h1.str
  obtain ⟨a2, b2, e2, h2, h⟩ := h.cons
  obtain ⟨x2, rfl⟩ := h2.bool
  have hn := h.nil
  exact ⟨⟨x0, x1, x2⟩, by rw [e0, e1, e2, hn]; try rfl, ⟨w0, w1, trivial⟩⟩
theorem br9 {p : PV} (hf : p.fits (some 3) = true) (h : Has aN4 p.cells) : ∃ x : aa4, p = zE1 x ∧ aG4 x := by
  obtain ⟨x, h1, h2⟩ := bk6 h
  exact ⟨x, by rw [be5 hf, h1]; rfl, h2⟩
def av9 : Ty := .st [(.sl aN4)]
def aw0 (x : aa2) : Prop := (List.length x.Attrs ≤ aV1 ∧ ∀ y ∈ x.Attrs, aG4 y)
theorem bf2 {ps : List PV} (h : Has av9 ps) : ∃ x : aa2, ps = (zE2 x).cells ∧ aw0 x := by
  have h := h.st
  obtain ⟨a0, b0, e0, h0, h⟩ := h.cons
  obtain ⟨x0, rfl, w0, q0⟩ := h0.sl (fun p hf h => br9 hf h)
  have hn := h.nil
  exact ⟨⟨x0⟩, by rw [e0, hn]; try rfl, ⟨w0, q0⟩⟩
theorem bk7 {p : PV} (hf : p.fits (some 1) = true) (h : Has av9 p.cells) : ∃ x : aa2, p = zE2 x ∧ aw0 x := by
  obtain ⟨x, h1, h2⟩ := bf2 h
  exact ⟨x, by rw [be5 hf, h1]; rfl, h2⟩
def aE3 : Ty := .st [.str, .str]
def aK9 (x : (Str × Str)) : Prop := (List.length x.1 ≤ maxLen) ∧ (List.length x.2 ≤ maxLen)
theorem bs0 {ps : List PV} (h : Has aE3 ps) : ∃ x : (Str × Str), ps = (aB4 x).cells ∧ aK9 x := by
  have h := h.st
  obtain ⟨a0, b0, e0, h0, h⟩ := h.cons
  obtain ⟨x0, rfl, w0⟩ := h0.str
  obtain ⟨a1, b1, e1, h1, h⟩ := h.cons
  obtain ⟨x1, rfl, w1⟩ := h1.str
  have hn := h.nil
  exact ⟨⟨x0, x1⟩, by rw [e0, e1, hn]; try rfl, ⟨w0, w1⟩⟩
theorem bG0 {p : PV} (hf : p.fits (some 2) = true) (h : Has aE3 p.cells) : ∃ x : (Str × Str), p = aB4 x ∧ aK9 x := by
  obtain ⟨x, h1, h2⟩ := bs0 h
  exact ⟨x, by rw [be5 hf, h1]; rfl, h2⟩
theorem args3 {qs : List PV} (h : HasArgs [(.sl av9), aE3, .str] qs) : ∃ (l : (List aa2)) (hosts : (Str × Str)) (address : Str), qs = [.sl (some 1) (List.map zE2 l), aB4 hosts, .str address] ∧ (List.length l ≤ aV1 ∧ ∀ y ∈ l, aw0 y) ∧ aK9 hosts ∧ (List.length address ≤ maxLen) := by
  obtain ⟨q0, r0, e0, f0, h0, h⟩ := h.cons
  rw [by2 f0] at h0
  obtain ⟨x0, y0, w0, z0⟩ := h0.sl (fun p hf h => bk7 hf h)
  obtain rfl := (List.cons.inj y0).1
  obtain ⟨q1, r1, e1, f1, h1, h⟩ := h.cons
  obtain ⟨x1, rfl, w1⟩ := bG0 f1 h1
  obtain ⟨q2, r2, e2, f2, h2, h⟩ := h.cons
  rw [by2 f2] at h2
  obtain ⟨x2, y2, w2⟩ := h2.str
  obtain rfl := (List.cons.inj y2).1
  have hn := h.nil
  exact ⟨x0, x1, x2, by rw [e0, e1, e2, hn]; try rfl, ⟨w0, z0⟩, w1, w2⟩
end Go.Proofs.YtpnaccnofbkhiaaGreatDoor
