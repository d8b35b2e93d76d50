import Derived.Test.YtgmlbldjdhonjaaGreatDoorS
import Derived.Test.YtgmlbldjdhonjaaGreatDoorVmP
namespace Go.Proofs.YtgmlbldjdhonjaaGreatDoor
open Go.Vm
set_option autoImplicit false
set_option linter.unusedVariables false
set_option maxRecDepth 100000
def ty_api_Wait : Ty := .st [(.int .i64), .str]
def wf_api_Wait (x : api_Wait) : Prop := (Lit.int .i64 x.Id).wf = true ∧ (List.length x.Status ≤ maxLen)
theorem rdc_api_Wait {ps : List PV} (h : Has ty_api_Wait ps) : ∃ x : api_Wait, ps = (zE1 x).cells ∧ wf_api_Wait x := by
  have h := h.st
  obtain ⟨a0, b0, e0, h0, h⟩ := h.cons
  obtain ⟨x0, rfl, w0⟩ := h0.int
  obtain ⟨a1, b1, e1, h1, h⟩ := h.cons
  obtain ⟨x1, rfl, w1⟩ := h1.str
  have hn := h.nil
  exact ⟨⟨x0, x1⟩, by rw [e0, e1, hn]; try rfl, ⟨w0, w1⟩⟩
theorem rd_api_Wait {p : PV} (hf : p.fits (some 2) = true) (h : Has ty_api_Wait p.cells) : ∃ x : api_Wait, p = zE1 x ∧ wf_api_Wait x := by
  obtain ⟨x, h1, h2⟩ := rdc_api_Wait h
  exact ⟨x, by rw [fits_agg hf, h1]; rfl, h2⟩
def ty_api_Proc : Ty := .st [(.int .i64), (.int .i64), (.int .i64), .str, .str, (.int .i64), (.int .i64), (.int .i64), .str, (.sl .str), .str, (.sl ty_api_Wait), .bool]
def wf_api_Proc (x : api_Proc) : Prop := (Lit.int .i64 x.Id).wf = true ∧ (Lit.int .i64 x.Parent).wf = true ∧ (Lit.int .i64 x.State).wf = true ∧ (List.length x.User ≤ maxLen) ∧ (List.length x.Name ≤ maxLen) ∧ (Lit.int .i64 x.Ns).wf = true ∧ (Lit.int .i64 x.Env).wf = true ∧ (Lit.int .i64 x.Fds).wf = true ∧ (List.length x.Cwd ≤ maxLen) ∧ (List.length x.Notes ≤ topLen ∧ ∀ y ∈ x.Notes, (List.length y ≤ maxLen)) ∧ (List.length x.Status ≤ maxLen) ∧ (List.length x.Waits ≤ topLen ∧ ∀ y ∈ x.Waits, wf_api_Wait y) ∧ True
theorem rdc_api_Proc {ps : List PV} (h : Has ty_api_Proc ps) : ∃ x : api_Proc, ps = (zE2 x).cells ∧ wf_api_Proc x := by
  have h := h.st
  obtain ⟨a0, b0, e0, h0, h⟩ := h.cons
  obtain ⟨x0, rfl, w0⟩ := h0.int
  obtain ⟨a1, b1, e1, h1, h⟩ := h.cons
  obtain ⟨x1, rfl, w1⟩ := h1.int
  obtain ⟨a2, b2, e2, h2, h⟩ := h.cons
  obtain ⟨x2, rfl, w2⟩ := h2.int
  obtain ⟨a3, b3, e3, h3, h⟩ := h.cons
  obtain ⟨x3, rfl, w3⟩ := h3.str
  obtain ⟨a4, b4, e4, h4, h⟩ := h.cons
  obtain ⟨x4, rfl, w4⟩ := h4.str
  obtain ⟨a5, b5, e5, h5, h⟩ := h.cons
  obtain ⟨x5, rfl, w5⟩ := h5.int
  obtain ⟨a6, b6, e6, h6, h⟩ := h.cons
  obtain ⟨x6, rfl, w6⟩ := h6.int
  obtain ⟨a7, b7, e7, h7, h⟩ := h.cons
  obtain ⟨x7, rfl, w7⟩ := h7.int
  obtain ⟨a8, b8, e8, h8, h⟩ := h.cons
  obtain ⟨x8, rfl, w8⟩ := h8.str
  obtain ⟨a9, b9, e9, h9, h⟩ := h.cons
  obtain ⟨x9, rfl, w9, q9⟩ := h9.sl (fun p hf h => by rw [fits_one hf] at h; obtain ⟨n, e, w⟩ := h.str; exact ⟨n, by simpa using e, w⟩)
  obtain ⟨a10, b10, e10, h10, h⟩ := h.cons
  obtain ⟨x10, rfl, w10⟩ := h10.str
  obtain ⟨a11, b11, e11, h11, h⟩ := h.cons
  obtain ⟨x11, rfl, w11, q11⟩ := h11.sl (fun p hf h => rd_api_Wait hf h)
  obtain ⟨a12, b12, e12, h12, h⟩ := h.cons
  obtain ⟨x12, rfl⟩ := h12.bool
  have hn := h.nil
  exact ⟨⟨x0, x1, x2, x3, x4, x5, x6, x7, x8, x9, x10, x11, x12⟩, by rw [e0, e1, e2, e3, e4, e5, e6, e7, e8, e9, e10, e11, e12, hn]; try rfl, ⟨w0, w1, w2, w3, w4, w5, w6, w7, w8, ⟨w9, q9⟩, w10, ⟨w11, q11⟩, trivial⟩⟩
theorem rd_api_Proc {p : PV} (hf : p.fits (some 13) = true) (h : Has ty_api_Proc p.cells) : ∃ x : api_Proc, p = zE2 x ∧ wf_api_Proc x := by
  obtain ⟨x, h1, h2⟩ := rdc_api_Proc h
  exact ⟨x, by rw [fits_agg hf, h1]; rfl, h2⟩
def ty_api_Procs : Ty := .st [(.int .i64), (.int .i64), (.sl ty_api_Proc)]
def wf_api_Procs (x : api_Procs) : Prop := (Lit.int .i64 x.Next).wf = true ∧ (Lit.int .i64 x.Group).wf = true ∧ (List.length x.L ≤ topLen ∧ ∀ y ∈ x.L, wf_api_Proc y)
theorem rdc_api_Procs {ps : List PV} (h : Has ty_api_Procs ps) : ∃ x : api_Procs, ps = (zE3 x).cells ∧ wf_api_Procs x := by
  have h := h.st
  obtain ⟨a0, b0, e0, h0, h⟩ := h.cons
  obtain ⟨x0, rfl, w0⟩ := h0.int
  obtain ⟨a1, b1, e1, h1, h⟩ := h.cons
  obtain ⟨x1, rfl, w1⟩ := h1.int
  obtain ⟨a2, b2, e2, h2, h⟩ := h.cons
  obtain ⟨x2, rfl, w2, q2⟩ := h2.sl (fun p hf h => rd_api_Proc hf h)
  have hn := h.nil
  exact ⟨⟨x0, x1, x2⟩, by rw [e0, e1, e2, hn]; try rfl, ⟨w0, w1, ⟨w2, q2⟩⟩⟩
theorem rd_api_Procs {p : PV} (hf : p.fits (some 3) = true) (h : Has ty_api_Procs p.cells) : ∃ x : api_Procs, p = zE3 x ∧ wf_api_Procs x := by
  obtain ⟨x, h1, h2⟩ := rdc_api_Procs h
  exact ⟨x, by rw [fits_agg hf, h1]; rfl, h2⟩
def ty_law31_Op : Ty := .st [(.int .i64), .str, (.int .i64), (.int .i64), (.int .i64), .str]
def wf_law31_Op (x : law31_Op) : Prop := (Lit.int .i64 x.Kind).wf = true ∧ (List.length x.User ≤ maxLen) ∧ (Lit.int .i64 x.Id).wf = true ∧ (Lit.int .i64 x.Offset).wf = true ∧ (Lit.int .i64 x.Count).wf = true ∧ (List.length x.Text ≤ maxLen)
theorem rdc_law31_Op {ps : List PV} (h : Has ty_law31_Op ps) : ∃ x : law31_Op, ps = (zE4 x).cells ∧ wf_law31_Op x := by
  have h := h.st
  obtain ⟨a0, b0, e0, h0, h⟩ := h.cons
  obtain ⟨x0, rfl, w0⟩ := h0.int
  obtain ⟨a1, b1, e1, h1, h⟩ := h.cons
  obtain ⟨x1, rfl, w1⟩ := h1.str
  obtain ⟨a2, b2, e2, h2, h⟩ := h.cons
  obtain ⟨x2, rfl, w2⟩ := h2.int
  obtain ⟨a3, b3, e3, h3, h⟩ := h.cons
  obtain ⟨x3, rfl, w3⟩ := h3.int
  obtain ⟨a4, b4, e4, h4, h⟩ := h.cons
  obtain ⟨x4, rfl, w4⟩ := h4.int
  obtain ⟨a5, b5, e5, h5, h⟩ := h.cons
  obtain ⟨x5, rfl, w5⟩ := h5.str
  have hn := h.nil
  exact ⟨⟨x0, x1, x2, x3, x4, x5⟩, by rw [e0, e1, e2, e3, e4, e5, hn]; try rfl, ⟨w0, w1, w2, w3, w4, w5⟩⟩
theorem rd_law31_Op {p : PV} (hf : p.fits (some 6) = true) (h : Has ty_law31_Op p.cells) : ∃ x : law31_Op, p = zE4 x ∧ wf_law31_Op x := by
  obtain ⟨x, h1, h2⟩ := rdc_law31_Op h
  exact ⟨x, by rw [fits_agg hf, h1]; rfl, h2⟩
theorem args3 {qs : List PV} (h : HasArgs [ty_api_Procs, ty_law31_Op] qs) : ∃ (p : api_Procs) (o : law31_Op), qs = [zE3 p, zE4 o] ∧ wf_api_Procs p ∧ wf_law31_Op o := by
  obtain ⟨q0, r0, e0, f0, h0, h⟩ := h.cons
  obtain ⟨x0, rfl, w0⟩ := rd_api_Procs f0 h0
  obtain ⟨q1, r1, e1, f1, h1, h⟩ := h.cons
  obtain ⟨x1, rfl, w1⟩ := rd_law31_Op f1 h1
  have hn := h.nil
  exact ⟨x0, x1, by rw [e0, e1, hn]; try rfl, w0, w1⟩
end Go.Proofs.YtgmlbldjdhonjaaGreatDoor
