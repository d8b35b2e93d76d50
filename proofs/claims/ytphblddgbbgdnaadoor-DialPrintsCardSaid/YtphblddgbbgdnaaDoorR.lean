/- Arguments of the statements as typed data. -/
import Derived.Test.YtphblddgbbgdnaaDoorS
import Derived.Test.YtphblddgbbgdnaaDoorVmP
namespace Go.Proofs.YtphblddgbbgdnaaDoor
open Go.Vm
set_option autoImplicit false
set_option linter.unusedVariables false
set_option maxRecDepth 100000

def ty_api_Attr : Ty := .st [.str, .str, .bool]
def wf_api_Attr (x : api_Attr) : Prop := (List.length x.Name ≤ maxLen) ∧ (List.length x.Value ≤ maxLen) ∧ True
theorem rdc_api_Attr {ps : List PV} (h : Has ty_api_Attr ps) : ∃ x : api_Attr, ps = (enc_api_Attr x).cells ∧ wf_api_Attr x := by
  have h := h.st
  obtain ⟨a0, b0, e0, h0, h⟩ := h.cons
  obtain ⟨x0, rfl, w0⟩ := h0.str
  obtain ⟨a1, b1, e1, h1, h⟩ := h.cons
  obtain ⟨x1, rfl, w1⟩ := h1.str
  obtain ⟨a2, b2, e2, h2, h⟩ := h.cons
  obtain ⟨x2, rfl⟩ := h2.bool
  have hn := h.nil
  exact ⟨⟨x0, x1, x2⟩, by rw [e0, e1, e2, hn]; try rfl, ⟨w0, w1, trivial⟩⟩
theorem rd_api_Attr {p : PV} (hf : p.fits (some 3) = true) (h : Has ty_api_Attr p.cells) : ∃ x : api_Attr, p = enc_api_Attr x ∧ wf_api_Attr x := by
  obtain ⟨x, h1, h2⟩ := rdc_api_Attr h
  exact ⟨x, by rw [fits_agg hf, h1]; rfl, h2⟩
def ty_api_Entry : Ty := .st [(.sl ty_api_Attr)]
def wf_api_Entry (x : api_Entry) : Prop := (List.length x.Attrs ≤ topLen ∧ ∀ y ∈ x.Attrs, wf_api_Attr y)
theorem rdc_api_Entry {ps : List PV} (h : Has ty_api_Entry ps) : ∃ x : api_Entry, ps = (enc_api_Entry x).cells ∧ wf_api_Entry x := by
  have h := h.st
  obtain ⟨a0, b0, e0, h0, h⟩ := h.cons
  obtain ⟨x0, rfl, w0, q0⟩ := h0.sl (fun p hf h => rd_api_Attr hf h)
  have hn := h.nil
  exact ⟨⟨x0⟩, by rw [e0, hn]; try rfl, ⟨w0, q0⟩⟩
theorem rd_api_Entry {p : PV} (hf : p.fits (some 1) = true) (h : Has ty_api_Entry p.cells) : ∃ x : api_Entry, p = enc_api_Entry x ∧ wf_api_Entry x := by
  obtain ⟨x, h1, h2⟩ := rdc_api_Entry h
  exact ⟨x, by rw [fits_agg hf, h1]; rfl, h2⟩
theorem args8 {qs : List PV} (h : HasArgs [(.sl ty_api_Entry)] qs) : ∃ (l : (List api_Entry)), qs = [.sl (some 1) (List.map enc_api_Entry l)] ∧ (List.length l ≤ topLen ∧ ∀ y ∈ l, wf_api_Entry y) := by
  obtain ⟨q0, r0, e0, f0, h0, h⟩ := h.cons
  rw [fits_one f0] at h0
  obtain ⟨x0, y0, w0, z0⟩ := h0.sl (fun p hf h => rd_api_Entry hf h)
  obtain rfl := (List.cons.inj y0).1
  have hn := h.nil
  exact ⟨x0, by rw [e0, hn]; try rfl, ⟨w0, z0⟩⟩
end Go.Proofs.YtphblddgbbgdnaaDoor
