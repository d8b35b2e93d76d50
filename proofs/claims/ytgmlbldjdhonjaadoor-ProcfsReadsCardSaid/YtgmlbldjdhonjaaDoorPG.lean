import Derived.Test.YtgmlbldjdhonjaaDoorPE
namespace Go.Proofs.YtgmlbldjdhonjaaDoor
open Go.Vm
set_option autoImplicit false
set_option linter.unusedVariables false
set_option linter.unusedSimpArgs false
set_option maxRecDepth 100000
structure Fld (p : api_Procs) (x : api_Proc) : Prop where
 st : stateB x.State = true
 us : userV x.User = true
 nm : x.Name = [] ∨ validN x.Name = true
 cw : rootC x.Cwd = true
 stt : x.Status = []
 ns : 1 ≤ x.Ns ∧ x.Ns < p.Group
 en : 1 ≤ x.Env ∧ x.Env < p.Group
 fd : 1 ≤ x.Fds ∧ x.Fds < p.Group
 l1 : x.Notes.length ≤ 8
 l2 : x.Waits.length ≤ 64
 an : x.Notes.all shortB = true
 aw : x.Waits.all (waitB p.Next) = true
theorem fld_iff {p : api_Procs} {x : api_Proc} : fieldsB p x = true ↔ Fld p x := by
 unfold fieldsB grpB
 simp only [Bool.and_eq_true, Bool.or_eq_true, decide_eq_true_eq]
 constructor
 ·rintro ⟨⟨⟨⟨⟨⟨⟨⟨h1, h2⟩, h3⟩, h4⟩, h5⟩, h6, h7, h8⟩, h9, h10⟩, h11⟩, h12⟩
  exact ⟨h1, h2, h3, h4, h5, h6, h7, h8, by omega, by omega, h11, h12⟩
 ·intro h
  exact ⟨⟨⟨⟨⟨⟨⟨⟨h.st, h.us⟩, h.nm⟩, h.cw⟩, h.stt⟩, h.ns, h.en, h.fd⟩, by have := h.l1; omega, by have := h.l2; omega⟩, h.an⟩, h.aw⟩
theorem waitB_mono {n m : Int} (h : n ≤ m) {w : api_Wait} (hw : waitB n w = true) : waitB m w = true := by
 unfold waitB at hw ⊢
 simp only [Bool.and_eq_true, decide_eq_true_eq] at hw ⊢
 omega
theorem Fld.mono {p q : api_Procs} {x : api_Proc} (h : Fld p x) (hg : p.Group ≤ q.Group) (hn : p.Next ≤ q.Next) : Fld q x :=
 ⟨h.st, h.us, h.nm, h.cw, h.stt, ⟨h.ns.1, by have := h.ns.2; omega⟩, ⟨h.en.1, by have := h.en.2; omega⟩, ⟨h.fd.1, by have := h.fd.2; omega⟩, h.l1, h.l2, h.an, List.all_eq_true.2 fun w hw => waitB_mono hn (List.all_eq_true.1 h.aw w hw)⟩
theorem userV_len {s : Str} (h : userV s = true) : s.length ≤ 32 := by
 unfold userV at h
 simp only [Bool.and_eq_true, Bool.not_eq_true', Bool.or_eq_false_iff, decide_eq_false_iff_not] at h
 omega
theorem validN_len {s : Str} (h : validN s = true) : s.length ≤ 64 := by
 unfold validN at h
 simp only [Bool.and_eq_true, Bool.not_eq_true', Bool.or_eq_false_iff, decide_eq_false_iff_not] at h
 omega
theorem cleanP_len {s : Str} (h : (cleanP s).2 = 0) : (cleanP s).1.length ≤ 1024 := by
 unfold cleanP at h ⊢
 by_cases h0 : (splitP s).2 = 0
 ·rw [if_pos h0]; exact build_short h0
 ·rw [if_neg h0] at h; exact (h0 h).elim
theorem rootC_len {s : Str} (h : rootC s = true) : s.length ≤ 1024 := by
 unfold rootC at h
 simp only [Bool.and_eq_true, decide_eq_true_eq] at h
 rw [← h.2.1]; exact cleanP_len h.1
theorem Good.mod {p : api_Procs} (g : Good p) : Mod p :=
 ⟨by have := g.n2; omega, fun x hx => by
  have f := fld_iff.1 (g.fld x hx)
  have h1 := f.l1
  have h2 := f.l2
  have h3 := userV_len f.us
  have h4 : x.Name.length ≤ 64 := by
   rcases f.nm with h | h
   ·rw [h]; simp
   ·exact validN_len h
  have h5 := rootC_len f.cw
  omega⟩
theorem good_map {p : api_Procs} (g : Good p) (f : api_Proc → api_Proc) (hf : ∀ y ∈ p.L, (f y).Id = y.Id ∧ (f y).Parent = y.Parent ∧ fieldsB p (f y) = true) : Good { p with L := p.L.map f } := by
 obtain ⟨x0, r0, hl, h1, h2⟩ := g.fst
 refine ⟨by simpa using g.n2, ?_, ⟨f x0, r0.map f, by simp [hl], ?_, ?_⟩, ?_, g.nx, g.g1, g.g2, ?_, ?_⟩
 ·show (p.L.map f).Pairwise _
  rw [List.pairwise_map]
  refine g.inc.imp_of_mem fun {a b} ha hb hab => ?_
  rw [(hf a ha).1, (hf b hb).1]; exact hab
 ·rw [(hf x0 (by rw [hl]; simp)).1]; exact h1
 ·rw [(hf x0 (by rw [hl]; simp)).2.1]; exact h2
 ·intro y hy
  obtain ⟨z, hz, rfl⟩ := List.mem_map.1 hy
  rw [(hf z hz).1]; exact g.lst z hz
 ·intro y hy hy1
  obtain ⟨z, hz, rfl⟩ := List.mem_map.1 hy
  rw [(hf z hz).1] at hy1
  obtain ⟨w, hw, h3, h4⟩ := g.par z hz hy1
  exact ⟨f w, List.mem_map_of_mem hw, by rw [(hf w hw).1, (hf z hz).2.1]; exact h3, by rw [(hf w hw).1, (hf z hz).1]; exact h4⟩
 ·intro y hy
  obtain ⟨z, hz, rfl⟩ := List.mem_map.1 hy
  exact (hf z hz).2.2
theorem Good.one {p : api_Procs} (g : Good p) {x y : api_Proc} (hx : x ∈ p.L) (hy : y ∈ p.L) (h : x.Id = y.Id) : x = y := by
 obtain ⟨i, hi, rfl⟩ := List.getElem_of_mem hx
 obtain ⟨j, hj, rfl⟩ := List.getElem_of_mem hy
 have hinc := List.pairwise_iff_getElem.1 g.inc
 rcases Nat.lt_trichotomy i j with hh | hh | hh
 ·have := hinc i j hi hj hh; omega
 ·subst hh; rfl
 ·have := hinc j i hj hi hh; omega
theorem good_put {p : api_Procs} (g : Good p) {x x' : api_Proc} (hx : x ∈ p.L) (h1 : x'.Id = x.Id) (h2 : x'.Parent = x.Parent) (h3 : Fld p x') : Good { p with L := putP p.L x' } := by
 refine good_map g _ fun y hy => ?_
 by_cases h : y.Id = x'.Id
 ·have hyx : y = x := g.one hy hx (by rw [h, h1])
  subst hyx
  simp only [h, if_true]
  exact ⟨trivial, h2, fld_iff.2 h3⟩
 ·simp only [h, if_false]
  exact ⟨trivial, trivial, g.fld y hy⟩
theorem set_good {p : api_Procs} (g : Good p) (id n : Int) : Good (setS p id n).1 := by
 unfold setS
 cases hf : (findP p.L id).2 with
 | false => exact g
 | true =>
  obtain ⟨hm, _⟩ := find_mem hf
  cases hs : stateB n with
  | false => exact g
  | true =>
   have f := fld_iff.1 (g.fld _ hm)
   exact good_put g hm rfl rfl { f with st := hs }
theorem Good.ge1 {p : api_Procs} (g : Good p) {y : api_Proc} (hy : y ∈ p.L) : 1 ≤ y.Id := by
 obtain ⟨x0, r0, hl, h1, h2⟩ := g.fst
 have hinc := g.inc
 rw [hl] at hy hinc
 rcases List.mem_cons.1 hy with rfl | hy
 ·omega
 ·have := (List.pairwise_cons.1 hinc).1 y hy; omega
end Go.Proofs.YtgmlbldjdhonjaaDoor
