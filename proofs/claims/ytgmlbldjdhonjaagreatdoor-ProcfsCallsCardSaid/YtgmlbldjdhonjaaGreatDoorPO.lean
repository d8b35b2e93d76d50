import Derived.Test.YtgmlbldjdhonjaaGreatDoorPV
namespace Go.Proofs.YtgmlbldjdhonjaaGreatDoor
open Go.Vm
set_option autoImplicit false
set_option linter.unusedVariables false
set_option linter.unusedSimpArgs false
set_option maxRecDepth 100000
def Uniq (l : List api_Proc) : Prop := l.Pairwise (fun a b => a.Id ≠ b.Id)
theorem Good.uniq {p : api_Procs} (g : Good p) : Uniq p.L := g.inc.imp fun h => by omega
theorem Uniq.mid {a b : List api_Proc} {x : api_Proc} (h : Uniq (a ++ x :: b)) : (∀ y ∈ a, y.Id ≠ x.Id) ∧ ∀ y ∈ b, y.Id ≠ x.Id := by
 unfold Uniq at h
 rw [List.pairwise_append] at h
 obtain ⟨h1, h2, h3⟩ := h
 rw [List.pairwise_cons] at h2
 exact ⟨fun y hy => h3 y hy x (by simp), fun y hy => (h2.1 y hy).symm⟩
def putP (l : List api_Proc) (x : api_Proc) : List api_Proc := l.map fun y => if y.Id = x.Id then x else y
theorem putP_mid {a b : List api_Proc} {x x' : api_Proc} (h : Uniq (a ++ x :: b)) (he : x'.Id = x.Id) : putP (a ++ x :: b) x' = a ++ x' :: b := by
 obtain ⟨h1, h2⟩ := h.mid
 have e : ∀ l : List api_Proc, (∀ y ∈ l, y.Id ≠ x.Id) → (l.map fun y => if y.Id = x'.Id then x' else y) = l := fun l hl => by
  conv => rhs; rw [← List.map_id l]
  exact List.map_congr_left fun y hy => by rw [he, if_neg (hl y hy)]; rfl
 unfold putP
 rw [List.map_append, List.map_cons, e a h1, e b h2, if_pos he.symm]
theorem ref30_with_eq {p : api_Procs} (h : Mod p) (x : api_Proc) : ref30_with p x = some { p with L := putP p.L x } := by
 have hn := h.n
 have hm := m5
 unfold ref30_with
 refine loop_map p.L (fun y => if y.Id = x.Id then x else y) (fun s i => (i, s)) _ _ (fun s i hi hs => ?_) ?_
 ·show ref30_with_L9 p x (i : Int) s = _
  unfold ref30_with_L9
  have h1 : (i : Int) < (List.length p.L : Int) := by omega
  have ha : ∀ z : api_Proc, appL 168 s [z] = some (s ++ [z]) := fun z => appL_small (by simp; omega) (by simp; omega)
  simp only [decide_eq_true h1, if_true, lsAt_nat hi, Option.bind_some, ha, wrapNat hi (by omega)]
  by_cases hid : p.L[i].Id = x.Id
  ·simp [hid]
  ·simp [hid]
 ·show ref30_with_L9 p x _ _ = _
  unfold ref30_with_L9
  simp [putP]
theorem lsAt0 {α : Type} {x : α} {l : List α} : lsAt (x :: l) 0 = some x := by
 have := lsAt_nat (l := x :: l) (i := 0) (by simp); simpa using this
theorem cut1 {α : Type} {x : α} {l : List α} : cut (x :: l) 1 (List.length (x :: l) : Int) = some l := by
 have := cut_from (l := x :: l) (a := 1) (by simp)
 simpa using this
theorem setL {p : api_Procs} {a b : List api_Proc} {x : api_Proc} (y : api_Proc) : List.set (a ++ x :: b) (Int.toNat ((a.length : Nat) : Int)) y = a ++ y :: b := by
 rw [Int.toNat_natCast]; exact set_mid
inductive At (p : api_Procs) (id : Int) : Prop
 | no (h : ixP p.L id = -1) (hf : findP p.L id = (noP, false))
 | yes (a : List api_Proc) (x : api_Proc) (b : List api_Proc) (hl : p.L = a ++ x :: b) (hx : x.Id = id) (h : ixP p.L id = (a.length : Int)) (hf : findP p.L id = (x, true))
theorem at_cases (p : api_Procs) (id : Int) : At p id := by
 rcases ixP_cases p.L id with ⟨h1, h2⟩ | ⟨a, x, b, h1, h2, h3, h4⟩
 ·exact .no h2 (findP_none h1)
 ·exact .yes a x b h1 h2 h4 (by rw [h1]; exact findP_some h2 h3)
def setS (p : api_Procs) (id n : Int) : api_Procs × Int :=
 if (findP p.L id).2 = false then (p, 42) else if stateB n = false then (p, 1) else ({ p with L := putP p.L { (findP p.L id).1 with State := n } }, 0)
theorem ref30_Set_eq {p : api_Procs} (h : Mod p) (id n : Int) : ref30_Set p id n = some (setS p id n) := by
 unfold ref30_Set setS
 rw [ref30_Find_eq h, Option.bind_some]
 cases hf : (findP p.L id).2 with
 | false => rfl
 | true =>
  simp only [Bool.not_true, Bool.false_eq_true, if_false, reduceCtorEq]
  unfold stateB
  by_cases a1 : n = 1
  ·simp [a1, ref30_with_eq h]
  ·by_cases a2 : n = 2
   ·simp [a2, ref30_with_eq h]
   ·by_cases a3 : n = 3
    ·simp [a3, ref30_with_eq h]
    ·simp [a1, a2, a3]
theorem proc_Set_eq {p : api_Procs} (h : Mod p) (hu : Uniq p.L) (id n : Int) : proc_Set p id n = some (setS p id n) := by
 unfold proc_Set proc_state setS
 rw [proc_own_eq h, Option.bind_some, proc_index_eq h, Option.bind_some]
 rcases at_cases p id with ⟨h1, h2⟩ | ⟨a, x, b, hl, hx, h1, h2⟩
 ·rw [h1, h2]; rfl
 ·rw [h1, h2]
  have hn : ¬ ((a.length : Int) < 0) := by omega
  simp only [decide_eq_false hn, Bool.false_eq_true, if_false, Option.bind_some, reduceCtorEq, hl, lsAt_mid, setL]
  rw [hl] at hu
  simp only [putP_mid hu, Int.toNat_natCast, set_mid]
  unfold stateB
  cases hs : (decide (n = 1) || (decide (n = 2) || decide (n = 3))) <;> simp
def noteS (p : api_Procs) (id : Int) (s : Str) : api_Procs × Int :=
 if (findP p.L id).2 = false then (p, 42) else if shortB s = false then (p, 4) else if (8 : Int) ≤ (List.length (findP p.L id).1.Notes : Int) then (p, 22)
 else ({ p with L := putP p.L { (findP p.L id).1 with Notes := (findP p.L id).1.Notes ++ [s] } }, 0)
theorem ref30_Note_eq {p : api_Procs} (h : Mod p) (id : Int) (s : Str) : ref30_Note p id s = some (noteS p id s) := by
 unfold ref30_Note noteS
 rw [ref30_Find_eq h, Option.bind_some]
 cases hf : (findP p.L id).2 with
 | false => rfl
 | true =>
  simp only [Bool.not_true, Bool.false_eq_true, if_false, reduceCtorEq]
  unfold shortB
  by_cases a1 : (1024 : Int) < (List.length s : Int)
  ·have a2 : ¬ (List.length s : Int) ≤ 1024 := by omega
   simp [a1, a2]
  ·have a2 : (List.length s : Int) ≤ 1024 := by omega
   by_cases a3 : (8 : Int) ≤ (List.length (findP p.L id).1.Notes : Int)
   ·simp [a1, a2, a3]
   ·have c1 : appL 16 ([] : List Str) (findP p.L id).1.Notes = some (findP p.L id).1.Notes := by
     rw [appL_small (by simp; omega) (by simp; omega)]; rfl
    have c2 : appL 16 (findP p.L id).1.Notes [s] = some ((findP p.L id).1.Notes ++ [s]) := appL_small (by simp; omega) (by simp; omega)
    simp [a1, a2, a3, c1, c2, ref30_with_eq h]
theorem proc_Note_eq {p : api_Procs} (h : Mod p) (hu : Uniq p.L) (id : Int) (s : Str) : proc_Note p id s = some (noteS p id s) := by
 unfold proc_Note proc_short noteS
 rw [proc_own_eq h, Option.bind_some, proc_index_eq h, Option.bind_some]
 rcases at_cases p id with ⟨h1, h2⟩ | ⟨a, x, b, hl, hx, h1, h2⟩
 ·rw [h1, h2]; rfl
 ·rw [h1, h2]
  have hn : ¬ ((a.length : Int) < 0) := by omega
  simp only [decide_eq_false hn, Bool.false_eq_true, if_false, Option.bind_some, reduceCtorEq, hl, lsAt_mid, setL]
  rw [hl] at hu
  simp only [putP_mid hu, Int.toNat_natCast, set_mid]
  unfold shortB
  by_cases a2 : (List.length s : Int) ≤ 1024
  ·by_cases a3 : (8 : Int) ≤ (List.length x.Notes : Int)
   ·simp [a2, a3]
   ·have c2 : appL 16 x.Notes [s] = some (x.Notes ++ [s]) := appL_small (by simp; omega) (by simp; omega)
    simp [a2, a3, c2]
  ·simp [a2]
def awaitS (p : api_Procs) (id : Int) : api_Procs × api_Wait × Bool × Int :=
 if (findP p.L id).2 = false then (p, api_Wait.mk 0 [], false, 42) else match (findP p.L id).1.Waits with
  | [] => if (p.L.any fun x => decide (x.Parent = id) && !x.Alone) = true then (p, api_Wait.mk 0 [], true, 0) else (p, api_Wait.mk 0 [], false, 42)
  | w :: r => ({ p with L := putP p.L { (findP p.L id).1 with Waits := r } }, w, false, 0)
theorem ref30_Await_eq {p : api_Procs} (h : Mod p) (id : Int) : ref30_Await p id = some (awaitS p id) := by
 have hn := h.n
 have hm := m5
 have lp : loopM (fun s => ref30_Await_L14 p id s) 0 = some (if (p.L.any fun x => decide (x.Parent = id) && !x.Alone) = true then (p, api_Wait.mk 0 [], true, 0) else (p, api_Wait.mk 0 [], false, 42)) := by
  have := loop_allF p.L (fun x => !(decide (x.Parent = id) && !x.Alone)) (p, api_Wait.mk 0 [], true, 0) (p, api_Wait.mk 0 [], false, 42) (fun s => ref30_Await_L14 p id s) (fun i hi => by
   unfold ref30_Await_L14
   have h1 : (i : Int) < (List.length p.L : Int) := by omega
   simp only [decide_eq_true h1, if_true, lsAt_nat hi, Option.bind_some, wrapNat hi (by omega)]
   cases decide (p.L[i].Parent = id) <;> cases p.L[i].Alone <;> rfl) (by
   unfold ref30_Await_L14
   simp)
  rw [this]
  have e : (p.L.all fun x => !(decide (x.Parent = id) && !x.Alone)) = !(p.L.any fun x => decide (x.Parent = id) && !x.Alone) := by
   rw [List.not_any_eq_all_not]
  rw [e]
  cases (p.L.any fun x => decide (x.Parent = id) && !x.Alone) <;> rfl
 unfold ref30_Await awaitS
 rw [ref30_Find_eq h, Option.bind_some]
 cases hf : (findP p.L id).2 with
 | false => rfl
 | true =>
  simp only [Bool.not_true, Bool.false_eq_true, if_false, reduceCtorEq]
  cases hN : (findP p.L id).1.Waits with
  | nil => simp [lp]
  | cons s r =>
   have : (0 : Int) < (List.length (s :: r) : Int) := by simp <;> omega
   simp only [decide_eq_true this, if_true, lsAt0, cut1, Option.bind_some, ref30_with_eq h]
theorem proc_Await_eq {p : api_Procs} (h : Mod p) (hu : Uniq p.L) (id : Int) : proc_Await p id = some (awaitS p id) := by
 have hn := h.n
 have hm := m5
 have lp : slices_ContainsFunc_api_Proc_api_Proc_f77 p.L id = some (p.L.any fun x => decide (x.Parent = id) && !x.Alone) := by
  unfold slices_ContainsFunc_api_Proc_api_Proc_f77 slices_IndexFunc_api_Proc_api_Proc_f77
  have e : loopM (fun s => slices_IndexFunc_api_Proc_api_Proc_f77_L6 p.L id s) 0 = some (ixF (fun x : api_Proc => decide (x.Parent = id) && !x.Alone) p.L 0) := by
   refine loop_ix p.L (fun x => decide (x.Parent = id) && !x.Alone) _ (fun i hi => ?_) ?_
   ·unfold slices_IndexFunc_api_Proc_api_Proc_f77_L6 proc_Await_1
    have h1 : (i : Int) < (List.length p.L : Int) := by omega
    simp only [decide_eq_true h1, if_true, lsAt_nat hi, Option.bind_some, wrapNat hi (by omega)]
    split <;> rfl
   ·unfold slices_IndexFunc_api_Proc_api_Proc_f77_L6
    simp
  rw [e]
  simp only [Option.bind_some]
  congr 1
  rw [Bool.eq_iff_iff, decide_eq_true_eq]
  rcases ixF_cases (fun x : api_Proc => decide (x.Parent = id) && !x.Alone) p.L 0 with ⟨h1, h2⟩ | ⟨a, x, b, h1, h2, h3, h4⟩
  ·rw [h2]
   constructor
   ·intro h; omega
   ·intro h
    obtain ⟨x, hx, h⟩ := List.any_eq_true.1 h
    rw [h1 x hx] at h; cases h
  ·rw [h4]
   exact ⟨fun _ => List.any_eq_true.2 ⟨x, by rw [h1]; simp, h2⟩, fun _ => by omega⟩
 unfold proc_Await awaitS
 rw [proc_own_eq h, Option.bind_some, proc_index_eq h, Option.bind_some]
 rcases at_cases p id with ⟨h1, h2⟩ | ⟨a, x, b, hl, hx, h1, h2⟩
 ·rw [h1, h2]; rfl
 ·rw [h1, h2, lp]
  have hn : ¬ ((a.length : Int) < 0) := by omega
  have e1 : lsAt p.L (a.length : Int) = some x := by rw [hl]; exact lsAt_mid
  have e2 : ∀ y : api_Proc, y.Id = x.Id → List.set p.L (Int.toNat ((a.length : Nat) : Int)) y = putP p.L y := fun y hy => by
   rw [hl] at hu ⊢
   rw [putP_mid hu hy]
   exact setL (p := p) y
  simp only [decide_eq_false hn, Bool.false_eq_true, if_false, Option.bind_some, reduceCtorEq, e1]
  cases hN : x.Waits with
  | nil => cases (p.L.any fun x => decide (x.Parent = id) && !x.Alone) <;> simp
  | cons s r =>
   have : (0 : Int) < (List.length (s :: r) : Int) := by simp <;> omega
   simp only [decide_eq_true this, if_true, lsAt0, cut1, Option.bind_some]
   simp only [e2]
theorem find_mem {p : api_Procs} {id : Int} (h : (findP p.L id).2 = true) : (findP p.L id).1 ∈ p.L ∧ (findP p.L id).1.Id = id := by
 rcases at_cases p id with ⟨h1, h2⟩ | ⟨a, x, b, hl, hx, h1, h2⟩
 ·rw [h2] at h; cases h
 ·rw [h2]; exact ⟨by rw [hl]; simp, hx⟩
end Go.Proofs.YtgmlbldjdhonjaaGreatDoor
