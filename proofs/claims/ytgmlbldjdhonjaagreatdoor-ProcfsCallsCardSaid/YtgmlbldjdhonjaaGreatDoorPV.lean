import Derived.Test.YtgmlbldjdhonjaaGreatDoorPT
namespace Go.Proofs.YtgmlbldjdhonjaaGreatDoor
open Go.Vm
set_option autoImplicit false
set_option linter.unusedVariables false
set_option linter.unusedSimpArgs false
set_option maxRecDepth 100000
structure Good (p : api_Procs) : Prop where
 n2 : p.L.length ≤ 64
 inc : p.L.Pairwise (fun a b => a.Id < b.Id)
 fst : ∃ x r, p.L = x :: r ∧ x.Id = 1 ∧ x.Parent = 0
 lst : ∀ x ∈ p.L, x.Id < p.Next
 nx : p.Next ≤ 1048576
 g1 : 2 ≤ p.Group
 g2 : p.Group ≤ 1099511627777
 par : ∀ x ∈ p.L, x.Id ≠ 1 → ∃ y ∈ p.L, y.Id = x.Parent ∧ y.Id < x.Id
 fld : ∀ x ∈ p.L, fieldsB p x = true
noncomputable def rightB (p : api_Procs) : Bool := @decide (Good p) (Classical.propDecidable _)
theorem rightB_iff {p : api_Procs} : rightB p = true ↔ Good p := by unfold rightB; simp
theorem some_eq_iff {b c : Bool} (h : b = true ↔ c = true) : some b = some c := by
 cases b <;> cases c <;> simp_all
structure Head (p : api_Procs) : Prop where
 n1 : 0 < p.L.length
 n2 : p.L.length ≤ 64
 lst : ∀ x, p.L.getLast? = some x → x.Id < p.Next
 nx : p.Next ≤ 1048576
 g1 : 2 ≤ p.Group
 g2 : p.Group ≤ 1099511627777
theorem inc_of {l : List api_Proc} (h : ∀ (i : Nat) (h : i + 1 < l.length), (l[i]'(by omega)).Id < l[i + 1].Id) : l.Pairwise (fun a b => a.Id < b.Id) := by
 rw [List.pairwise_iff_getElem]
 intro i j hi hj hij
 obtain ⟨d, rfl⟩ : ∃ d, j = i + 1 + d := ⟨j - i - 1, by omega⟩
 induction d with
 | zero => exact h i (by omega)
 | succ d ih =>
  have h1 := ih (by omega) (by omega)
  have h2 := h (i + 1 + d) (by omega)
  have h3 : (l[i + 1 + (d + 1)]'hj).Id = (l[i + 1 + d + 1]'(by omega)).Id := rfl
  omega
theorem last_at {l : List api_Proc} (h : 0 < l.length) : l.getLast? = some (l[l.length - 1]'(by omega)) := by
 rw [List.getLast?_eq_getElem?, List.getElem?_eq_getElem (by omega)]
theorem good_iff {p : api_Procs} : Good p ↔ Head p ∧ ∀ (i : Nat) (h : i < p.L.length), fieldsB p p.L[i] = true ∧ (i = 0 → p.L[i].Id = 1 ∧ p.L[i].Parent = 0) ∧ (∀ h0 : 0 < i, (p.L[i - 1]'(by omega)).Id < p.L[i].Id ∧ ∃ (k : Nat) (hk : k < i), (p.L[k]'(by omega)).Id = p.L[i].Parent) := by
 constructor
 ·intro g
  obtain ⟨x0, r0, hl, h1, h2⟩ := g.fst
  have hn : 0 < p.L.length := by rw [hl]; simp
  have h00 : p.L[0] = x0 := by simp [hl]
  have hinc := List.pairwise_iff_getElem.1 g.inc
  refine ⟨⟨hn, g.n2, fun x hx => g.lst x (List.mem_of_getLast? hx), g.nx, g.g1, g.g2⟩, fun i hi => ⟨g.fld _ (List.getElem_mem hi), fun h0 => ?_, fun h0 => ⟨hinc (i - 1) i (by omega) hi (by omega), ?_⟩⟩⟩
  ·subst h0; rw [h00]; exact ⟨h1, h2⟩
  ·have hlt := hinc 0 i hn hi h0
   rw [h00, h1] at hlt
   obtain ⟨y, hy, hy1, hy2⟩ := g.par _ (List.getElem_mem hi) (by omega)
   obtain ⟨k, hk, rfl⟩ := List.getElem_of_mem hy
   refine ⟨k, ?_, hy1⟩
   rcases Nat.lt_or_ge k i with h | h
   ·exact h
   ·rcases Nat.eq_or_lt_of_le h with h | h
    ·subst h; omega
    ·have := hinc i k hi hk h; omega
 ·rintro ⟨hd, hi⟩
  have hinc : p.L.Pairwise (fun a b => a.Id < b.Id) := inc_of fun i h => by
   have := ((hi (i + 1) h).2.2 (by omega)).1
   simpa using this
  have hinc' := List.pairwise_iff_getElem.1 hinc
  have hn := hd.n1
  refine ⟨hd.n2, hinc, ?_, fun x hx => ?_, hd.nx, hd.g1, hd.g2, fun x hx h1 => ?_, fun x hx => ?_⟩
  ·have h0 := (hi 0 hn).2.1 rfl
   cases hl : p.L with
   | nil => rw [hl] at hn; simp at hn
   | cons x r => exact ⟨x, r, rfl, by simpa [hl] using h0⟩
  ·obtain ⟨k, hk, rfl⟩ := List.getElem_of_mem hx
   have h2 := hd.lst _ (last_at hn)
   rcases Nat.lt_or_ge k (p.L.length - 1) with h | h
   ·have := hinc' k (p.L.length - 1) hk (by omega) h; omega
   ·have : k = p.L.length - 1 := by omega
    subst this; exact h2
  ·obtain ⟨k, hk, rfl⟩ := List.getElem_of_mem hx
   have h0 : 0 < k := by
    rcases Nat.eq_zero_or_pos k with h | h
    ·subst h; exact (h1 ((hi 0 hk).2.1 rfl).1).elim
    ·exact h
   obtain ⟨j, hj, he⟩ := ((hi k hk).2.2 h0).2
   exact ⟨p.L[j]'(by omega), List.getElem_mem _, he, hinc' j k (by omega) hk hj⟩
  ·obtain ⟨k, hk, rfl⟩ := List.getElem_of_mem hx
   exact (hi k hk).1
theorem len_pred {p : api_Procs} (h : Mod p) (h0 : 0 < p.L.length) : lsAt p.L (IntKind.wrap .i64 ((List.length p.L : Int) - 1)) = some (p.L[p.L.length - 1]'(by omega)) := by
 have hn := h.n
 rw [wrap64 (by omega) (by omega)]
 exact lsAt_pred' h0
def headB (p : api_Procs) : Bool := decide (0 < p.L.length) && (decide (p.L.length ≤ 64) && ((p.L.getLast?.all fun x => decide (x.Id < p.Next)) && (decide (p.Next ≤ 1048576) && (decide (2 ≤ p.Group) && decide (p.Group ≤ 1099511627777)))))
theorem headB_iff {p : api_Procs} : headB p = true ↔ Head p := by
 unfold headB
 simp only [Bool.and_eq_true, decide_eq_true_eq]
 constructor
 ·rintro ⟨h1, h2, h3, h4, h5, h6⟩
  exact ⟨h1, h2, fun x hx => by rw [hx] at h3; simpa using h3, h4, h5, h6⟩
 ·intro h
  refine ⟨h.n1, h.n2, ?_, h.nx, h.g1, h.g2⟩
  cases hl : p.L.getLast? with
  | none => rfl
  | some x => simpa using h.lst x hl
theorem headNot {p : api_Procs} (h0 : 0 < p.L.length) : headB p = !(decide ((List.length p.L : Int) < 1) || (decide ((64 : Int) < (List.length p.L : Int)) || (decide (p.Next ≤ (p.L[p.L.length - 1]'(by omega)).Id) || (decide (1048576 < p.Next) || (decide (p.Group < 2) || decide (1099511627777 < p.Group)))))) := by
 unfold headB
 rw [last_at h0, Bool.eq_iff_iff]
 simp
 omega
def famB (l : List api_Proc) (i : Nat) (x : api_Proc) : Bool :=
 if i = 0 then decide (x.Id = 1) && decide (x.Parent = 0)
 else match l[i - 1]? with
  | some y => decide (y.Id < x.Id) && (decide (x.Parent < x.Id) && decide (0 ≤ ixP l x.Parent))
  | none => false
theorem proc_family_eq {p : api_Procs} (h : Mod p) {i : Nat} (hi : i < p.L.length) : proc_family p (i : Int) = some (famB p.L i p.L[i]) := by
 have hn := h.n
 have hm := m5
 unfold proc_family famB
 rw [lsAt_nat hi, Option.bind_some, i0]
 by_cases h0 : i = 0
 ·simp [h0]
 ·have hw : lsAt p.L (IntKind.wrap .i64 ((i : Int) - 1)) = some (p.L[i - 1]'(by omega)) := by
   rw [wrapPred hi (by omega)]
   exact lsAt_pred hi (by omega)
  have hg : p.L[i - 1]? = some (p.L[i - 1]'(by omega)) := List.getElem?_eq_getElem (by omega)
  simp only [decide_eq_false h0, Bool.false_eq_true, if_false, hw, Option.bind_some, proc_index_eq h, hg, h0]
  by_cases a1 : (p.L[i - 1]'(by omega)).Id < p.L[i].Id
  ·by_cases a2 : p.L[i].Parent < p.L[i].Id
   ·simp [a1, a2]
   ·simp [a1, a2]
  ·simp [a1]
theorem ixP_nonneg {l : List api_Proc} {id : Int} : 0 ≤ ixP l id ↔ ∃ y ∈ l, y.Id = id := by
 rcases ixP_cases l id with ⟨h1, h2⟩ | ⟨a, x, b, h1, h2, h3, h4⟩
 ·rw [h2]
  exact ⟨fun h => by omega, fun ⟨y, hy, he⟩ => (h1 y hy he).elim⟩
 ·rw [h4]
  exact ⟨fun _ => ⟨x, by rw [h1]; simp, h2⟩, fun _ => by omega⟩
theorem headFalse {p : api_Procs} (h : ¬ headB p = true) : ¬ Good p := fun g => h (headB_iff.2 (good_iff.1 g).1)
theorem proc_Right_eq {p : api_Procs} (h : Mod p) : proc_Right p = some (rightB p) := by
 have hn := h.n
 have hm := m5
 have hl : loopM (fun s => proc_Right_L17 p s) 0 = some (if allX (fun i x => famB p.L i x && fieldsB p x) 0 p.L = true then true else false) := by
  refine loop_allX p.L _ _ _ _ (fun i hi => ?_) ?_
  ·unfold proc_Right_L17
   have h1 : (i : Int) < (List.length p.L : Int) := by omega
   simp only [decide_eq_true h1, if_true, lsAt_nat hi, Option.bind_some, proc_family_eq h hi, proc_fields_eq h (List.getElem_mem hi), wrapNat hi (by omega)]
   cases famB p.L i p.L[i] <;> cases fieldsB p p.L[i] <;> rfl
  ·unfold proc_Right_L17
   simp
 unfold proc_Right
 rw [hl]
 by_cases h0 : 0 < p.L.length
 ·have hh := headNot h0
  rw [len_pred h h0]
  have key : (if allX (fun i x => famB p.L i x && fieldsB p x) 0 p.L = true then true else false) = true ↔ ∀ (i : Nat) (h : i < p.L.length), famB p.L i p.L[i] = true ∧ fieldsB p p.L[i] = true := by
   have := allI_iff (pr := fun i x => famB p.L i x && fieldsB p x) (l := p.L) (k := 0)
   simp only [Nat.zero_add, Bool.and_eq_true] at this
   rw [← this]; simp
  have fin : headB p = true → ((if allX (fun i x => famB p.L i x && fieldsB p x) 0 p.L = true then true else false) = true ↔ rightB p = true) := by
   intro hb
   rw [key, rightB_iff, good_iff]
   have hhd := headB_iff.1 hb
   constructor
   ·intro hi
    refine ⟨hhd, fun i h => ?_⟩
    have hinc : p.L.Pairwise (fun a b => a.Id < b.Id) := inc_of fun j hj => by
     have := (hi (j + 1) hj).1
     unfold famB at this
     rw [if_neg (by omega), show j + 1 - 1 = j by omega, List.getElem?_eq_getElem (by omega)] at this
     simp only [Bool.and_eq_true, decide_eq_true_eq] at this
     exact this.1
    have hinc' := List.pairwise_iff_getElem.1 hinc
    have hf := (hi i h).1
    unfold famB at hf
    refine ⟨(hi i h).2, fun h0 => ?_, fun h0 => ?_⟩
    ·rw [if_pos h0] at hf
     simpa using hf
    ·rw [if_neg (by omega), List.getElem?_eq_getElem (by omega)] at hf
     simp only [Bool.and_eq_true, decide_eq_true_eq] at hf
     obtain ⟨f1, f2, f3⟩ := hf
     refine ⟨f1, ?_⟩
     obtain ⟨y, hy, he⟩ := ixP_nonneg.1 f3
     obtain ⟨k, hk, rfl⟩ := List.getElem_of_mem hy
     refine ⟨k, ?_, he⟩
     rcases Nat.lt_or_ge k i with hh | hh
     ·exact hh
     ·rcases Nat.eq_or_lt_of_le hh with hh | hh
      ·subst hh; omega
      ·have := hinc' i k h hk hh; omega
   ·rintro ⟨_, hi⟩ i h
    obtain ⟨a1, a2, a3⟩ := hi i h
    refine ⟨?_, a1⟩
    have hg : Good p := good_iff.2 ⟨hhd, hi⟩
    have hinc' := List.pairwise_iff_getElem.1 hg.inc
    unfold famB
    by_cases h0 : i = 0
    ·rw [if_pos h0]
     simpa using a2 h0
    ·rw [if_neg h0, List.getElem?_eq_getElem (by omega)]
     obtain ⟨b1, k, hk, he⟩ := a3 (by omega)
     simp only [Bool.and_eq_true, decide_eq_true_eq]
     exact ⟨b1, by rw [← he]; exact hinc' k i (by omega) h hk, ixP_nonneg.2 ⟨_, List.getElem_mem _, he⟩⟩
  cases hb : headB p with
  | true =>
   rw [hb] at hh
   have hh' := hh.symm
   simp only [Bool.not_eq_true', Bool.or_eq_false_iff, decide_eq_false_iff_not] at hh'
   obtain ⟨c1, c2, c3, c4, c5, c6⟩ := hh'
   simp only [decide_eq_false c1, decide_eq_false c2, decide_eq_false c3, decide_eq_false c4, decide_eq_false c5, decide_eq_false c6, Bool.false_eq_true, if_false, Option.bind_some]
   exact some_eq_iff (fin hb)
  | false =>
   have hr : rightB p = false := by
    cases hq : rightB p with
    | false => rfl
    | true => exact (headFalse (by rw [hb]; simp) (rightB_iff.1 hq)).elim
   rw [hr]
   rw [hb] at hh
   generalize decide ((List.length p.L : Int) < 1) = c1 at hh ⊢
   generalize decide ((64 : Int) < (List.length p.L : Int)) = c2 at hh ⊢
   simp only [Option.bind_some]
   generalize decide (p.Next ≤ (p.L[p.L.length - 1]'(by omega)).Id) = c3 at hh ⊢
   generalize decide (1048576 < p.Next) = c4 at hh ⊢
   generalize decide (p.Group < 2) = c5 at hh ⊢
   generalize decide (1099511627777 < p.Group) = c6 at hh ⊢
   cases c1 <;> cases c2 <;> cases c3 <;> cases c4 <;> cases c5 <;> cases c6 <;> first | rfl | exact absurd hh (by decide)
 ·have hr : rightB p = false := by
   cases hq : rightB p with
   | false => rfl
   | true => exact (h0 (good_iff.1 (rightB_iff.1 hq)).1.n1).elim
  rw [hr]
  have : (List.length p.L : Int) < 1 := by omega
  simp [this]
def refB (l : List api_Proc) (i : Nat) (x : api_Proc) : Bool :=
 (decide (i = 0) || (l.take i).any fun y => decide (y.Id = x.Parent)) && (decide (i = 0) || (l[i - 1]?.all fun y => decide (y.Id < x.Id)))
theorem ref30_inner {p : api_Procs} (h : Mod p) {i : Nat} (hi : i < p.L.length) : loopM (fun s => ref30_Right_L31 p (i : Int) s.1 s.2) ((decide ((i : Int) = 0)), 0) = some (if refB p.L i p.L[i] = true then .cont ((i : Int) + 1) else .done false) := by
 have hn := h.n
 have hm := m5
 have ha : ∀ f, ref30_Right_A43 p (i : Int) f = some (if (f && (decide (i = 0) || (p.L[i - 1]?.all fun y => decide (y.Id < p.L[i].Id)))) = true then .cont ((i : Int) + 1) else .done false) := by
  intro f
  unfold ref30_Right_A43
  have hw : 0 < i → lsAt p.L (IntKind.wrap .i64 ((i : Int) - 1)) = some (p.L[i - 1]'(by omega)) := fun h0 => by
   rw [wrapPred hi (by omega)]
   exact lsAt_pred hi h0
  cases f with
  | false => simp
  | true =>
   by_cases h0 : i = 0
   ·subst h0
    simp [wrapNat hi (by omega)]
    rw [wrap64 (by omega) (by omega)]
   ·have hp : (0 : Int) < (i : Int) := by omega
    have hg : p.L[i - 1]? = some (p.L[i - 1]'(by omega)) := List.getElem?_eq_getElem (by omega)
    simp only [Bool.not_true, Bool.false_eq_true, if_false, decide_eq_true hp, if_true, lsAt_nat hi, Option.bind_some, hw (by omega), wrapNat hi (by omega), hg, Option.all_some, decide_eq_false h0, Bool.false_or, Bool.true_and]
    by_cases a1 : p.L[i].Id ≤ (p.L[i - 1]'(by omega)).Id
    ·have a2 : ¬ (p.L[i - 1]'(by omega)).Id < p.L[i].Id := by omega
     simp [a1, a2]
    ·have a2 : (p.L[i - 1]'(by omega)).Id < p.L[i].Id := by omega
     simp [a1, a2]
 have := loopM_F (σ := Bool) i (fun s k => (s, k)) (fun s => ref30_Right_L31 p (i : Int) s.1 s.2) (fun k s => if ((s || ((p.L.take i).drop k).any fun y => decide (y.Id = p.L[i].Parent)) && (decide (i = 0) || (p.L[i - 1]?.all fun y => decide (y.Id < p.L[i].Id)))) = true then .cont ((i : Int) + 1) else .done false) (fun _ _ => True) (s0 := decide ((i : Int) = 0)) trivial (fun s k hk _ => by
  left
  have hk1 : (k : Int) < (i : Int) := by omega
  have hkl : k < p.L.length := by omega
  refine ⟨s || decide (p.L[k].Id = p.L[i].Parent), ?_, ?_, trivial⟩
  ·show ref30_Right_L31 p (i : Int) s (k : Int) = _
   unfold ref30_Right_L31
   simp only [decide_eq_true hk1, if_true, lsAt_nat hi, lsAt_nat hkl, Option.bind_some, wrapNat hkl (by omega)]
   cases s <;> rfl
  ·have hd : (p.L.take i).drop k = p.L[k] :: (p.L.take i).drop (k + 1) := by
    rw [List.drop_eq_getElem_cons (by simp; omega)]
    simp
   rw [hd]
   simp only [List.any_cons, Bool.or_assoc]; rfl) (fun s _ => by
  show ref30_Right_L31 p (i : Int) s (i : Int) = _
  unfold ref30_Right_L31
  have : ¬ ((i : Int) < (i : Int)) := by omega
  simp only [decide_eq_false this, Bool.false_eq_true, if_false, ha, Option.map_some]
  rw [List.drop_of_length_le (by rw [List.length_take]; omega)]
  simp)
 rw [this]
 unfold refB
 rw [i0]
 simp
theorem ref30_Right_eq {p : api_Procs} (h : Mod p) : ref30_Right p = some (rightB p) := by
 have hn := h.n
 have hm := m5
 have hl : loopM (fun s => ref30_Right_L19 p s) 0 = some (if allX (fun i x => fieldsB p x && refB p.L i x) 0 p.L = true then true else false) := by
  refine loop_allX p.L _ _ _ _ (fun i hi => ?_) ?_
  ·unfold ref30_Right_L19
   have h1 : (i : Int) < (List.length p.L : Int) := by omega
   simp only [decide_eq_true h1, if_true, lsAt_nat hi, Option.bind_some, ref30_fields_eq h (List.getElem_mem hi), ref30_inner h hi]
   cases fieldsB p p.L[i] <;> cases refB p.L i p.L[i] <;> rfl
  ·unfold ref30_Right_L19
   simp
 unfold ref30_Right
 rw [hl]
 by_cases h0 : 0 < p.L.length
 ·have hh := headNot h0
  have z0 : lsAt p.L 0 = some p.L[0] := by have := lsAt_nat (l := p.L) (i := 0) h0; simpa using this
  rw [len_pred h h0, z0]
  have key : (if allX (fun i x => fieldsB p x && refB p.L i x) 0 p.L = true then true else false) = true ↔ ∀ (i : Nat) (h : i < p.L.length), fieldsB p p.L[i] = true ∧ refB p.L i p.L[i] = true := by
   have := allI_iff (pr := fun i x => fieldsB p x && refB p.L i x) (l := p.L) (k := 0)
   simp only [Nat.zero_add, Bool.and_eq_true] at this
   rw [← this]; simp
  have rb : ∀ (i : Nat) (hi : i < p.L.length), 0 < i → (refB p.L i p.L[i] = true ↔ (p.L[i - 1]'(by omega)).Id < p.L[i].Id ∧ ∃ (k : Nat) (hk : k < i), (p.L[k]'(by omega)).Id = p.L[i].Parent) := by
   intro i hi h1
   have hne : i ≠ 0 := by omega
   unfold refB
   rw [List.getElem?_eq_getElem (by omega)]
   simp only [decide_eq_false hne, Bool.false_or, Bool.and_eq_true, Option.all_some, decide_eq_true_eq, List.any_eq_true]
   constructor
   ·rintro ⟨⟨y, hy, he⟩, h2⟩
    obtain ⟨k, hk, rfl⟩ := List.getElem_of_mem hy
    refine ⟨h2, k, by simp at hk; omega, ?_⟩
    simpa using he
   ·rintro ⟨h2, k, hk, he⟩
    refine ⟨⟨p.L[k]'(by omega), ?_, he⟩, h2⟩
    rw [List.mem_take_iff_getElem]
    exact ⟨k, by omega, rfl⟩
  have fin : headB p = true → p.L[0].Id = 1 ∧ p.L[0].Parent = 0 → ((if allX (fun i x => fieldsB p x && refB p.L i x) 0 p.L = true then true else false) = true ↔ rightB p = true) := by
   intro hb hz
   rw [key, rightB_iff, good_iff]
   have hhd := headB_iff.1 hb
   constructor
   ·intro hi
    exact ⟨hhd, fun i h => ⟨(hi i h).1, fun h0 => by subst h0; exact hz, fun h0 => (rb i h h0).1 (hi i h).2⟩⟩
   ·rintro ⟨_, hi⟩ i h
    refine ⟨(hi i h).1, ?_⟩
    by_cases h0 : i = 0
    ·subst h0; simp [refB]
    ·exact (rb i h (by omega)).2 ((hi i h).2.2 (by omega))
  by_cases hz : p.L[0].Id = 1 ∧ p.L[0].Parent = 0
  ·obtain ⟨z1, z2⟩ := hz
   cases hb : headB p with
   | true =>
    rw [hb] at hh
    have hh' := hh.symm
    simp only [Bool.not_eq_true', Bool.or_eq_false_iff, decide_eq_false_iff_not] at hh'
    obtain ⟨c1, c2, c3, c4, c5, c6⟩ := hh'
    simp only [decide_eq_false c1, decide_eq_false c2, decide_eq_false c3, decide_eq_false c4, decide_eq_false c5, decide_eq_false c6, Bool.false_eq_true, if_false, Option.bind_some, decide_eq_true z1, decide_eq_true z2, Bool.not_true]
    exact some_eq_iff (fin hb ⟨z1, z2⟩)
   | false =>
    have hr : rightB p = false := by
     cases hq : rightB p with
     | false => rfl
     | true => exact (headFalse (by rw [hb]; simp) (rightB_iff.1 hq)).elim
    rw [hr]
    rw [hb] at hh
    simp only [Option.bind_some, decide_eq_true z1, decide_eq_true z2, Bool.not_true, Bool.false_eq_true, if_false]
    generalize decide ((List.length p.L : Int) < 1) = c1 at hh ⊢
    generalize decide ((64 : Int) < (List.length p.L : Int)) = c2 at hh ⊢
    generalize decide (p.Next ≤ (p.L[p.L.length - 1]'(by omega)).Id) = c3 at hh ⊢
    generalize decide (1048576 < p.Next) = c4 at hh ⊢
    generalize decide (p.Group < 2) = c5 at hh ⊢
    generalize decide (1099511627777 < p.Group) = c6 at hh ⊢
    cases c1 <;> cases c2 <;> cases c3 <;> cases c4 <;> cases c5 <;> cases c6 <;> first | rfl | exact absurd hh (by decide)
  ·have hr : rightB p = false := by
    cases hq : rightB p with
    | false => rfl
    | true => exact (hz (((good_iff.1 (rightB_iff.1 hq)).2 0 h0).2.1 rfl)).elim
   rw [hr]
   simp only [Option.bind_some]
   by_cases z1 : p.L[0].Id = 1
   ·have z2 : ¬ p.L[0].Parent = 0 := fun h => hz ⟨z1, h⟩
    simp only [decide_eq_true z1, decide_eq_false z2, Bool.not_true, Bool.not_false, Bool.false_eq_true, if_false, if_true]
    cases decide ((List.length p.L : Int) < 1) <;> cases decide ((64 : Int) < (List.length p.L : Int)) <;> rfl
   ·simp only [decide_eq_false z1, Bool.not_false, if_true]
    cases decide ((List.length p.L : Int) < 1) <;> cases decide ((64 : Int) < (List.length p.L : Int)) <;> rfl
 ·have hr : rightB p = false := by
   cases hq : rightB p with
   | false => rfl
   | true => exact (h0 (good_iff.1 (rightB_iff.1 hq)).1.n1).elim
  rw [hr]
  have : (List.length p.L : Int) < 1 := by omega
  simp [this]
end Go.Proofs.YtgmlbldjdhonjaaGreatDoor
