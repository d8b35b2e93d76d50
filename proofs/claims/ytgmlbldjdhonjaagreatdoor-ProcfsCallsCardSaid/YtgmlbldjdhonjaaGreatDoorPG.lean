import Derived.Test.YtgmlbldjdhonjaaGreatDoorPE
namespace Go.Proofs.YtgmlbldjdhonjaaGreatDoor
open Go.Vm
set_option autoImplicit false
set_option linter.unusedVariables false
set_option linter.unusedSimpArgs false
set_option maxRecDepth 100000
structure Fld (p : api_Procs) (x : api_Proc) : Prop where
 st : stateB x.State = true
 us : userV x.User = true
 nm : x.Name = [] ∨ validN x.Name = true
 cw : rootC x.Cwd = true
 stt : x.Status = []
 ns : 1 ≤ x.Ns ∧ x.Ns < p.Group
 en : 1 ≤ x.Env ∧ x.Env < p.Group
 fd : 1 ≤ x.Fds ∧ x.Fds < p.Group
 l1 : x.Notes.length ≤ 8
 l2 : x.Waits.length ≤ 64
 an : x.Notes.all shortB = true
 aw : x.Waits.all (waitB p.Next) = true
theorem fld_iff {p : api_Procs} {x : api_Proc} : fieldsB p x = true ↔ Fld p x := by
 unfold fieldsB grpB
 simp only [Bool.and_eq_true, Bool.or_eq_true, decide_eq_true_eq]
 constructor
 ·rintro ⟨⟨⟨⟨⟨⟨⟨⟨h1, h2⟩, h3⟩, h4⟩, h5⟩, h6, h7, h8⟩, h9, h10⟩, h11⟩, h12⟩
  exact ⟨h1, h2, h3, h4, h5, h6, h7, h8, by omega, by omega, h11, h12⟩
 ·intro h
  exact ⟨⟨⟨⟨⟨⟨⟨⟨h.st, h.us⟩, h.nm⟩, h.cw⟩, h.stt⟩, h.ns, h.en, h.fd⟩, by have := h.l1; omega, by have := h.l2; omega⟩, h.an⟩, h.aw⟩
theorem waitB_mono {n m : Int} (h : n ≤ m) {w : api_Wait} (hw : waitB n w = true) : waitB m w = true := by
 unfold waitB at hw ⊢
 simp only [Bool.and_eq_true, decide_eq_true_eq] at hw ⊢
 omega
theorem Fld.mono {p q : api_Procs} {x : api_Proc} (h : Fld p x) (hg : p.Group ≤ q.Group) (hn : p.Next ≤ q.Next) : Fld q x :=
 ⟨h.st, h.us, h.nm, h.cw, h.stt, ⟨h.ns.1, by have := h.ns.2; omega⟩, ⟨h.en.1, by have := h.en.2; omega⟩, ⟨h.fd.1, by have := h.fd.2; omega⟩, h.l1, h.l2, h.an, List.all_eq_true.2 fun w hw => waitB_mono hn (List.all_eq_true.1 h.aw w hw)⟩
theorem userV_len {s : Str} (h : userV s = true) : s.length ≤ 32 := by
 unfold userV at h
 simp only [Bool.and_eq_true, Bool.not_eq_true', Bool.or_eq_false_iff, decide_eq_false_iff_not] at h
 omega
theorem validN_len {s : Str} (h : validN s = true) : s.length ≤ 64 := by
 unfold validN at h
 simp only [Bool.and_eq_true, Bool.not_eq_true', Bool.or_eq_false_iff, decide_eq_false_iff_not] at h
 omega
theorem cleanP_len {s : Str} (h : (cleanP s).2 = 0) : (cleanP s).1.length ≤ 1024 := by
 unfold cleanP at h ⊢
 by_cases h0 : (splitP s).2 = 0
 ·rw [if_pos h0]; exact build_short h0
 ·rw [if_neg h0] at h; exact (h0 h).elim
theorem rootC_len {s : Str} (h : rootC s = true) : s.length ≤ 1024 := by
 unfold rootC at h
 simp only [Bool.and_eq_true, decide_eq_true_eq] at h
 rw [← h.2.1]; exact cleanP_len h.1
theorem Good.mod {p : api_Procs} (g : Good p) : Mod p :=
 ⟨by have := g.n2; omega, fun x hx => by
  have f := fld_iff.1 (g.fld x hx)
  have h1 := f.l1
  have h2 := f.l2
  have h3 := userV_len f.us
  have h4 : x.Name.length ≤ 64 := by
   rcases f.nm with h | h
   ·rw [h]; simp
   ·exact validN_len h
  have h5 := rootC_len f.cw
  omega⟩
theorem good_map {p : api_Procs} (g : Good p) (f : api_Proc → api_Proc) (hf : ∀ y ∈ p.L, (f y).Id = y.Id ∧ (f y).Parent = y.Parent ∧ fieldsB p (f y) = true) : Good { p with L := p.L.map f } := by
 obtain ⟨x0, r0, hl, h1, h2⟩ := g.fst
 refine ⟨by simpa using g.n2, ?_, ⟨f x0, r0.map f, by simp [hl], ?_, ?_⟩, ?_, g.nx, g.g1, g.g2, ?_, ?_⟩
 ·show (p.L.map f).Pairwise _
  rw [List.pairwise_map]
  refine g.inc.imp_of_mem fun {a b} ha hb hab => ?_
  rw [(hf a ha).1, (hf b hb).1]; exact hab
 ·rw [(hf x0 (by rw [hl]; simp)).1]; exact h1
 ·rw [(hf x0 (by rw [hl]; simp)).2.1]; exact h2
 ·intro y hy
  obtain ⟨z, hz, rfl⟩ := List.mem_map.1 hy
  rw [(hf z hz).1]; exact g.lst z hz
 ·intro y hy hy1
  obtain ⟨z, hz, rfl⟩ := List.mem_map.1 hy
  rw [(hf z hz).1] at hy1
  obtain ⟨w, hw, h3, h4⟩ := g.par z hz hy1
  exact ⟨f w, List.mem_map_of_mem hw, by rw [(hf w hw).1, (hf z hz).2.1]; exact h3, by rw [(hf w hw).1, (hf z hz).1]; exact h4⟩
 ·intro y hy
  obtain ⟨z, hz, rfl⟩ := List.mem_map.1 hy
  exact (hf z hz).2.2
theorem Good.one {p : api_Procs} (g : Good p) {x y : api_Proc} (hx : x ∈ p.L) (hy : y ∈ p.L) (h : x.Id = y.Id) : x = y := by
 obtain ⟨i, hi, rfl⟩ := List.getElem_of_mem hx
 obtain ⟨j, hj, rfl⟩ := List.getElem_of_mem hy
 have hinc := List.pairwise_iff_getElem.1 g.inc
 rcases Nat.lt_trichotomy i j with hh | hh | hh
 ·have := hinc i j hi hj hh; omega
 ·subst hh; rfl
 ·have := hinc j i hj hi hh; omega
theorem good_put {p : api_Procs} (g : Good p) {x x' : api_Proc} (hx : x ∈ p.L) (h1 : x'.Id = x.Id) (h2 : x'.Parent = x.Parent) (h3 : Fld p x') : Good { p with L := putP p.L x' } := by
 refine good_map g _ fun y hy => ?_
 by_cases h : y.Id = x'.Id
 ·have hyx : y = x := g.one hy hx (by rw [h, h1])
  subst hyx
  simp only [h, if_true]
  exact ⟨trivial, h2, fld_iff.2 h3⟩
 ·simp only [h, if_false]
  exact ⟨trivial, trivial, g.fld y hy⟩
theorem set_good {p : api_Procs} (g : Good p) (id n : Int) : Good (setS p id n).1 := by
 unfold setS
 cases hf : (findP p.L id).2 with
 | false => exact g
 | true =>
  obtain ⟨hm, _⟩ := find_mem hf
  cases hs : stateB n with
  | false => exact g
  | true =>
   have f := fld_iff.1 (g.fld _ hm)
   exact good_put g hm rfl rfl { f with st := hs }
theorem note_good {p : api_Procs} (g : Good p) (id : Int) (s : Str) : Good (noteS p id s).1 := by
 unfold noteS
 cases hf : (findP p.L id).2 with
 | false => exact g
 | true =>
  obtain ⟨hm, _⟩ := find_mem hf
  cases hs : shortB s with
  | false => exact g
  | true =>
   simp only [reduceCtorEq, if_false]
   by_cases h8 : (8 : Int) ≤ (List.length (findP p.L id).1.Notes : Int)
   ·rw [if_pos h8]; exact g
   ·rw [if_neg h8]
    have f := fld_iff.1 (g.fld _ hm)
    exact good_put g hm rfl rfl { f with l1 := by simp; omega, an := by simp [f.an, hs] }
theorem await_good {p : api_Procs} (g : Good p) (id : Int) : Good (awaitS p id).1 := by
 unfold awaitS
 cases hf : (findP p.L id).2 with
 | false => exact g
 | true =>
  obtain ⟨hm, _⟩ := find_mem hf
  simp only [reduceCtorEq, if_false]
  have f := fld_iff.1 (g.fld _ hm)
  cases hN : (findP p.L id).1.Waits with
  | nil => simp only; split <;> exact g
  | cons s r =>
   have l2 := f.l2
   have aw := f.aw
   rw [hN] at l2 aw
   simp only [List.all_cons, Bool.and_eq_true] at aw
   exact good_put g hm rfl rfl { f with l2 := by simp at l2 ⊢; omega, aw := aw.2 }
theorem exitY_id (id : Int) (s : Str) (x y : api_Proc) : (exitY id s x y).Id = y.Id := by
 unfold exitY
 have := (repP_id id y).1
 split
 ·exact this
 ·exact this
theorem exitY_parent (id : Int) (s : Str) (x y : api_Proc) : (exitY id s x y).Parent = if y.Parent = id then 1 else y.Parent := by
 unfold exitY addW repP
 by_cases h : y.Parent = id
 ·simp only [h, if_true]; split <;> rfl
 ·simp only [h, if_false]; split <;> rfl
theorem Good.ge1 {p : api_Procs} (g : Good p) {y : api_Proc} (hy : y ∈ p.L) : 1 ≤ y.Id := by
 obtain ⟨x0, r0, hl, h1, h2⟩ := g.fst
 have hinc := g.inc
 rw [hl] at hy hinc
 rcases List.mem_cons.1 hy with rfl | hy
 ·omega
 ·have := (List.pairwise_cons.1 hinc).1 y hy; omega
theorem exit_good {p : api_Procs} (g : Good p) (id : Int) {s : Str} : Good (exitS p id s).1 := by
 unfold exitS
 cases hf : (findP p.L id).2 with
 | false => exact g
 | true =>
  obtain ⟨hm, hid⟩ := find_mem hf
  simp only [reduceCtorEq, if_false]
  by_cases h1 : id = 1
  ·rw [if_pos h1]; exact g
  ·rw [if_neg h1]
   cases hs : shortB s with
   | false => exact g
   | true =>
    simp only [reduceCtorEq, if_false]
    rcases at_cases p id with ⟨k1, k2⟩ | ⟨a, x, b, hl, hx, k1, k2⟩
    ·rw [k2] at hf; cases hf
    ·rw [k2]
     have hfm : p.L.filterMap (exitF id s x) = (a ++ b).map (exitY id s x) := by
      rw [hl]; exact exit_list hx (by rw [← hl]; exact g.uniq)
     show Good { p with L := p.L.filterMap (exitF id s x) }
     rw [hfm]
     have hxm : x ∈ p.L := by rw [hl]; simp
     have hsub : ∀ y ∈ a ++ b, y ∈ p.L := fun y hy => memM hl hy
     have hidge := g.ge1 hxm
     obtain ⟨x0, r0, hl0, z1, z2⟩ := g.fst
     have ha : ∃ a', a = x0 :: a' := by
      cases a with
      | nil =>
       rw [hl0] at hl
       have : x0 = x := (List.cons.inj hl).1
       subst this
       omega
      | cons y a' =>
       rw [hl0] at hl
       have := (List.cons.inj hl).1
       exact ⟨a', by rw [this]⟩
     obtain ⟨a', rfl⟩ := ha
     have len : ((x0 :: a') ++ b).length + 1 = p.L.length := by rw [hl]; simp; omega
     refine ⟨?_, ?_, ⟨exitY id s x x0, (a' ++ b).map (exitY id s x), rfl, by rw [exitY_id]; exact z1, ?_⟩, ?_, g.nx, g.g1, g.g2, ?_, ?_⟩
     ·show (((x0 :: a') ++ b).map (exitY id s x)).length ≤ 64
      have := g.n2
      rw [List.length_map]; omega
     ·show (((x0 :: a') ++ b).map (exitY id s x)).Pairwise _
      rw [List.pairwise_map]
      have hsl : ((x0 :: a') ++ b).Sublist p.L := by
       rw [hl]; exact List.Sublist.append (List.Sublist.refl _) (List.sublist_cons_self _ _)
      refine (g.inc.sublist hsl).imp fun hab => ?_
      rw [exitY_id, exitY_id]; exact hab
     ·rw [exitY_parent, if_neg (by rw [z2]; omega)]; exact z2
     ·intro y hy
      obtain ⟨z, hz, rfl⟩ := List.mem_map.1 hy
      rw [exitY_id]; exact g.lst z (hsub z hz)
     ·intro y hy hy1
      obtain ⟨z, hz, rfl⟩ := List.mem_map.1 hy
      rw [exitY_id] at hy1 ⊢
      rw [exitY_parent]
      obtain ⟨w, hw, h3, h4⟩ := g.par z (hsub z hz) hy1
      have hzge := g.ge1 (hsub z hz)
      by_cases hp : z.Parent = id
      ·rw [if_pos hp]
       exact ⟨exitY id s x x0, List.mem_map_of_mem (by simp), by rw [exitY_id]; exact z1, by rw [exitY_id]; omega⟩
      ·rw [if_neg hp]
       refine ⟨exitY id s x w, List.mem_map_of_mem ?_, by rw [exitY_id]; exact h3, by rw [exitY_id]; exact h4⟩
       rw [hl] at hw
       have hwx : w ≠ x := fun e => hp (by rw [← h3, e]; exact hx)
       rcases List.mem_append.1 hw with h | h
       ·exact List.mem_append.2 (.inl h)
       ·rcases List.mem_cons.1 h with h | h
        ·exact (hwx h).elim
        ·exact List.mem_append.2 (.inr h)
     ·intro y hy
      obtain ⟨z, hz, rfl⟩ := List.mem_map.1 hy
      have f := fld_iff.1 (g.fld z (hsub z hz))
      have fr : Fld p (repP id z) := by
       unfold repP
       split
       ·exact { f with }
       ·exact f
      unfold exitY
      by_cases hw : waitC x (repP id z) = true
      ·rw [if_pos hw]
       unfold waitC at hw
       simp only [Bool.and_eq_true, decide_eq_true_eq] at hw
       refine fld_iff.2 { fr with l2 := by simp [addW]; omega, aw := ?_ }
       show ((repP id z).Waits ++ [api_Wait.mk id s]).all (waitB p.Next) = true
       rw [List.all_append, fr.aw]
       have : waitB p.Next (api_Wait.mk id s) = true := by
        unfold waitB
        unfold shortB at hs
        simp only [Bool.and_eq_true, decide_eq_true_eq]
        have := g.lst x hxm
        exact ⟨by omega, by omega, by simpa using hs⟩
       simp [this]
      ·rw [if_neg hw]; exact fld_iff.2 { fr with }
end Go.Proofs.YtgmlbldjdhonjaaGreatDoor
