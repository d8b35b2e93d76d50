/- Arguments of the statements as typed data. -/
import Derived.Test.YtpmkdmgmnljlmaaS
import Derived.Test.YtpmkdmgmnljlmaaVmP
namespace Go.Proofs.Ytpmkdmgmnljlmaa
open Go.Vm
set_option autoImplicit false
set_option linter.unusedVariables false
set_option maxRecDepth 100000

def ty_api_Quota : Ty := .st [.str, (.int .i64), (.int .i64)]
def wf_api_Quota (x : api_Quota) : Prop := (List.length x.User ≤ maxLen) ∧ (Lit.int .i64 x.Files).wf = true ∧ (Lit.int .i64 x.Bytes).wf = true
theorem rdc_api_Quota {ps : List PV} (h : Has ty_api_Quota ps) : ∃ x : api_Quota, ps = (enc_api_Quota x).cells ∧ wf_api_Quota x := by
  have h := h.st
  obtain ⟨a0, b0, e0, h0, h⟩ := h.cons
  obtain ⟨x0, rfl, w0⟩ := h0.str
  obtain ⟨a1, b1, e1, h1, h⟩ := h.cons
  obtain ⟨x1, rfl, w1⟩ := h1.int
  obtain ⟨a2, b2, e2, h2, h⟩ := h.cons
  obtain ⟨x2, rfl, w2⟩ := h2.int
  have hn := h.nil
  exact ⟨⟨x0, x1, x2⟩, by rw [e0, e1, e2, hn]; rfl, ⟨w0, w1, w2⟩⟩
theorem rd_api_Quota {p : PV} (hf : p.fits (some 3) = true) (h : Has ty_api_Quota p.cells) : ∃ x : api_Quota, p = enc_api_Quota x ∧ wf_api_Quota x := by
  obtain ⟨x, h1, h2⟩ := rdc_api_Quota h
  exact ⟨x, by rw [fits_agg hf, h1]; rfl, h2⟩
theorem args3 {qs : List PV} (h : HasArgs [(.sl ty_api_Quota)] qs) : ∃ (l : (List api_Quota)), qs = [.sl (some 3) (List.map enc_api_Quota l)] ∧ (List.length l ≤ maxLen ∧ ∀ y ∈ l, wf_api_Quota y) := by
  obtain ⟨q0, r0, e0, f0, h0, h⟩ := h.cons
  rw [fits_one f0] at h0
  obtain ⟨x0, y0, w0, z0⟩ := h0.sl (fun p hf h => rd_api_Quota hf h)
  obtain rfl := (List.cons.inj y0).1
  have hn := h.nil
  exact ⟨x0, by rw [e0, hn]; rfl, ⟨w0, z0⟩⟩
def ty_api_Node : Ty := .st [(.int .i64), (.int .i64), (.int .i64), .str, (.int .i64), .str, .str, .str, (.int .i64), (.int .i64), .str]
def wf_api_Node (x : api_Node) : Prop := (Lit.int .i64 x.Id).wf = true ∧ (Lit.int .i64 x.Parent).wf = true ∧ (Lit.int .i64 x.Vers).wf = true ∧ (List.length x.Name ≤ maxLen) ∧ (Lit.int .i64 x.Mode).wf = true ∧ (List.length x.Uid ≤ maxLen) ∧ (List.length x.Gid ≤ maxLen) ∧ (List.length x.Muid ≤ maxLen) ∧ (Lit.int .i64 x.Atime).wf = true ∧ (Lit.int .i64 x.Mtime).wf = true ∧ (List.length x.Data ≤ maxLen)
theorem rdc_api_Node {ps : List PV} (h : Has ty_api_Node ps) : ∃ x : api_Node, ps = (enc_api_Node x).cells ∧ wf_api_Node x := by
  have h := h.st
  obtain ⟨a0, b0, e0, h0, h⟩ := h.cons
  obtain ⟨x0, rfl, w0⟩ := h0.int
  obtain ⟨a1, b1, e1, h1, h⟩ := h.cons
  obtain ⟨x1, rfl, w1⟩ := h1.int
  obtain ⟨a2, b2, e2, h2, h⟩ := h.cons
  obtain ⟨x2, rfl, w2⟩ := h2.int
  obtain ⟨a3, b3, e3, h3, h⟩ := h.cons
  obtain ⟨x3, rfl, w3⟩ := h3.str
  obtain ⟨a4, b4, e4, h4, h⟩ := h.cons
  obtain ⟨x4, rfl, w4⟩ := h4.int
  obtain ⟨a5, b5, e5, h5, h⟩ := h.cons
  obtain ⟨x5, rfl, w5⟩ := h5.str
  obtain ⟨a6, b6, e6, h6, h⟩ := h.cons
  obtain ⟨x6, rfl, w6⟩ := h6.str
  obtain ⟨a7, b7, e7, h7, h⟩ := h.cons
  obtain ⟨x7, rfl, w7⟩ := h7.str
  obtain ⟨a8, b8, e8, h8, h⟩ := h.cons
  obtain ⟨x8, rfl, w8⟩ := h8.int
  obtain ⟨a9, b9, e9, h9, h⟩ := h.cons
  obtain ⟨x9, rfl, w9⟩ := h9.int
  obtain ⟨a10, b10, e10, h10, h⟩ := h.cons
  obtain ⟨x10, rfl, w10⟩ := h10.str
  have hn := h.nil
  exact ⟨⟨x0, x1, x2, x3, x4, x5, x6, x7, x8, x9, x10⟩, by rw [e0, e1, e2, e3, e4, e5, e6, e7, e8, e9, e10, hn]; rfl, ⟨w0, w1, w2, w3, w4, w5, w6, w7, w8, w9, w10⟩⟩
theorem rd_api_Node {p : PV} (hf : p.fits (some 11) = true) (h : Has ty_api_Node p.cells) : ∃ x : api_Node, p = enc_api_Node x ∧ wf_api_Node x := by
  obtain ⟨x, h1, h2⟩ := rdc_api_Node h
  exact ⟨x, by rw [fits_agg hf, h1]; rfl, h2⟩
def ty_api_Tree : Ty := .st [(.int .i64), (.sl ty_api_Node)]
def wf_api_Tree (x : api_Tree) : Prop := (Lit.int .i64 x.Next).wf = true ∧ (List.length x.Nodes ≤ maxLen ∧ ∀ y ∈ x.Nodes, wf_api_Node y)
theorem rdc_api_Tree {ps : List PV} (h : Has ty_api_Tree ps) : ∃ x : api_Tree, ps = (enc_api_Tree x).cells ∧ wf_api_Tree x := by
  have h := h.st
  obtain ⟨a0, b0, e0, h0, h⟩ := h.cons
  obtain ⟨x0, rfl, w0⟩ := h0.int
  obtain ⟨a1, b1, e1, h1, h⟩ := h.cons
  obtain ⟨x1, rfl, w1, q1⟩ := h1.sl (fun p hf h => rd_api_Node hf h)
  have hn := h.nil
  exact ⟨⟨x0, x1⟩, by rw [e0, e1, hn]; rfl, ⟨w0, ⟨w1, q1⟩⟩⟩
theorem rd_api_Tree {p : PV} (hf : p.fits (some 2) = true) (h : Has ty_api_Tree p.cells) : ∃ x : api_Tree, p = enc_api_Tree x ∧ wf_api_Tree x := by
  obtain ⟨x, h1, h2⟩ := rdc_api_Tree h
  exact ⟨x, by rw [fits_agg hf, h1]; rfl, h2⟩
def ty_law12_Ask : Ty := .st [.str, (.int .i64), (.int .i64)]
def wf_law12_Ask (x : law12_Ask) : Prop := (List.length x.User ≤ maxLen) ∧ (Lit.int .i64 x.Files).wf = true ∧ (Lit.int .i64 x.Bytes).wf = true
theorem rdc_law12_Ask {ps : List PV} (h : Has ty_law12_Ask ps) : ∃ x : law12_Ask, ps = (enc_law12_Ask x).cells ∧ wf_law12_Ask x := by
  have h := h.st
  obtain ⟨a0, b0, e0, h0, h⟩ := h.cons
  obtain ⟨x0, rfl, w0⟩ := h0.str
  obtain ⟨a1, b1, e1, h1, h⟩ := h.cons
  obtain ⟨x1, rfl, w1⟩ := h1.int
  obtain ⟨a2, b2, e2, h2, h⟩ := h.cons
  obtain ⟨x2, rfl, w2⟩ := h2.int
  have hn := h.nil
  exact ⟨⟨x0, x1, x2⟩, by rw [e0, e1, e2, hn]; rfl, ⟨w0, w1, w2⟩⟩
theorem rd_law12_Ask {p : PV} (hf : p.fits (some 3) = true) (h : Has ty_law12_Ask p.cells) : ∃ x : law12_Ask, p = enc_law12_Ask x ∧ wf_law12_Ask x := by
  obtain ⟨x, h1, h2⟩ := rdc_law12_Ask h
  exact ⟨x, by rw [fits_agg hf, h1]; rfl, h2⟩
theorem args4 {qs : List PV} (h : HasArgs [(.sl ty_api_Quota), ty_api_Tree, ty_law12_Ask] qs) : ∃ (l : (List api_Quota)) (t_ : api_Tree) (x_ : law12_Ask), qs = [.sl (some 3) (List.map enc_api_Quota l), enc_api_Tree t_, enc_law12_Ask x_] ∧ (List.length l ≤ maxLen ∧ ∀ y ∈ l, wf_api_Quota y) ∧ wf_api_Tree t_ ∧ wf_law12_Ask x_ := by
  obtain ⟨q0, r0, e0, f0, h0, h⟩ := h.cons
  rw [fits_one f0] at h0
  obtain ⟨x0, y0, w0, z0⟩ := h0.sl (fun p hf h => rd_api_Quota hf h)
  obtain rfl := (List.cons.inj y0).1
  obtain ⟨q1, r1, e1, f1, h1, h⟩ := h.cons
  obtain ⟨x1, rfl, w1⟩ := rd_api_Tree f1 h1
  obtain ⟨q2, r2, e2, f2, h2, h⟩ := h.cons
  obtain ⟨x2, rfl, w2⟩ := rd_law12_Ask f2 h2
  have hn := h.nil
  exact ⟨x0, x1, x2, by rw [e0, e1, e2, hn]; rfl, ⟨w0, z0⟩, w1, w2⟩
def ty_law12_Ask_law12_Ask : Ty := .st [ty_law12_Ask, ty_law12_Ask]
def wf_law12_Ask_law12_Ask (x : (law12_Ask × law12_Ask)) : Prop := wf_law12_Ask x.1 ∧ wf_law12_Ask x.2
theorem rdc_law12_Ask_law12_Ask {ps : List PV} (h : Has ty_law12_Ask_law12_Ask ps) : ∃ x : (law12_Ask × law12_Ask), ps = (encT_law12_Ask_law12_Ask x).cells ∧ wf_law12_Ask_law12_Ask x := by
  have h := h.st
  obtain ⟨a0, b0, e0, h0, h⟩ := h.cons
  obtain ⟨x0, rfl, w0⟩ := rdc_law12_Ask h0
  obtain ⟨a1, b1, e1, h1, h⟩ := h.cons
  obtain ⟨x1, rfl, w1⟩ := rdc_law12_Ask h1
  have hn := h.nil
  exact ⟨⟨x0, x1⟩, by rw [e0, e1, hn]; rfl, ⟨w0, w1⟩⟩
theorem rd_law12_Ask_law12_Ask {p : PV} (hf : p.fits (some 6) = true) (h : Has ty_law12_Ask_law12_Ask p.cells) : ∃ x : (law12_Ask × law12_Ask), p = encT_law12_Ask_law12_Ask x ∧ wf_law12_Ask_law12_Ask x := by
  obtain ⟨x, h1, h2⟩ := rdc_law12_Ask_law12_Ask h
  exact ⟨x, by rw [fits_agg hf, h1]; rfl, h2⟩
theorem args5 {qs : List PV} (h : HasArgs [(.sl ty_api_Quota), ty_api_Tree, ty_law12_Ask_law12_Ask] qs) : ∃ (l : (List api_Quota)) (t_ : api_Tree) (x_ : (law12_Ask × law12_Ask)), qs = [.sl (some 3) (List.map enc_api_Quota l), enc_api_Tree t_, encT_law12_Ask_law12_Ask x_] ∧ (List.length l ≤ maxLen ∧ ∀ y ∈ l, wf_api_Quota y) ∧ wf_api_Tree t_ ∧ wf_law12_Ask_law12_Ask x_ := by
  obtain ⟨q0, r0, e0, f0, h0, h⟩ := h.cons
  rw [fits_one f0] at h0
  obtain ⟨x0, y0, w0, z0⟩ := h0.sl (fun p hf h => rd_api_Quota hf h)
  obtain rfl := (List.cons.inj y0).1
  obtain ⟨q1, r1, e1, f1, h1, h⟩ := h.cons
  obtain ⟨x1, rfl, w1⟩ := rd_api_Tree f1 h1
  obtain ⟨q2, r2, e2, f2, h2, h⟩ := h.cons
  obtain ⟨x2, rfl, w2⟩ := rd_law12_Ask_law12_Ask f2 h2
  have hn := h.nil
  exact ⟨x0, x1, x2, by rw [e0, e1, e2, hn]; rfl, ⟨w0, z0⟩, w1, w2⟩
theorem args6 {qs : List PV} (h : HasArgs [(.sl ty_api_Quota), ty_api_Tree] qs) : ∃ (l : (List api_Quota)) (t_ : api_Tree), qs = [.sl (some 3) (List.map enc_api_Quota l), enc_api_Tree t_] ∧ (List.length l ≤ maxLen ∧ ∀ y ∈ l, wf_api_Quota y) ∧ wf_api_Tree t_ := by
  obtain ⟨q0, r0, e0, f0, h0, h⟩ := h.cons
  rw [fits_one f0] at h0
  obtain ⟨x0, y0, w0, z0⟩ := h0.sl (fun p hf h => rd_api_Quota hf h)
  obtain rfl := (List.cons.inj y0).1
  obtain ⟨q1, r1, e1, f1, h1, h⟩ := h.cons
  obtain ⟨x1, rfl, w1⟩ := rd_api_Tree f1 h1
  have hn := h.nil
  exact ⟨x0, x1, by rw [e0, e1, hn]; rfl, ⟨w0, z0⟩, w1⟩
theorem args7 {qs : List PV} (h : HasArgs [(.sl ty_api_Quota), ty_api_Tree, .str, .str] qs) : ∃ (l : (List api_Quota)) (t_ : api_Tree) (user : Str) (data : Str), qs = [.sl (some 3) (List.map enc_api_Quota l), enc_api_Tree t_, .str user, .str data] ∧ (List.length l ≤ maxLen ∧ ∀ y ∈ l, wf_api_Quota y) ∧ wf_api_Tree t_ ∧ (List.length user ≤ maxLen) ∧ (List.length data ≤ maxLen) := by
  obtain ⟨q0, r0, e0, f0, h0, h⟩ := h.cons
  rw [fits_one f0] at h0
  obtain ⟨x0, y0, w0, z0⟩ := h0.sl (fun p hf h => rd_api_Quota hf h)
  obtain rfl := (List.cons.inj y0).1
  obtain ⟨q1, r1, e1, f1, h1, h⟩ := h.cons
  obtain ⟨x1, rfl, w1⟩ := rd_api_Tree f1 h1
  obtain ⟨q2, r2, e2, f2, h2, h⟩ := h.cons
  rw [fits_one f2] at h2
  obtain ⟨x2, y2, w2⟩ := h2.str
  obtain rfl := (List.cons.inj y2).1
  obtain ⟨q3, r3, e3, f3, h3, h⟩ := h.cons
  rw [fits_one f3] at h3
  obtain ⟨x3, y3, w3⟩ := h3.str
  obtain rfl := (List.cons.inj y3).1
  have hn := h.nil
  exact ⟨x0, x1, x2, x3, by rw [e0, e1, e2, e3, hn]; rfl, ⟨w0, z0⟩, w1, w2, w3⟩
end Go.Proofs.Ytpmkdmgmnljlmaa
