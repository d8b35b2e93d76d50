import Derived.Test.YtgmlbldjdhonjaaDoorPV
namespace Go.Proofs.YtgmlbldjdhonjaaDoor
open Go.Vm
set_option autoImplicit false
set_option linter.unusedVariables false
set_option linter.unusedSimpArgs false
set_option maxRecDepth 100000
def Uniq (l : List api_Proc) : Prop := l.Pairwise (fun a b => a.Id ≠ b.Id)
theorem Good.uniq {p : api_Procs} (g : Good p) : Uniq p.L := g.inc.imp fun h => by omega
theorem Uniq.mid {a b : List api_Proc} {x : api_Proc} (h : Uniq (a ++ x :: b)) : (∀ y ∈ a, y.Id ≠ x.Id) ∧ ∀ y ∈ b, y.Id ≠ x.Id := by
 unfold Uniq at h
 rw [List.pairwise_append] at h
 obtain ⟨h1, h2, h3⟩ := h
 rw [List.pairwise_cons] at h2
 exact ⟨fun y hy => h3 y hy x (by simp), fun y hy => (h2.1 y hy).symm⟩
def putP (l : List api_Proc) (x : api_Proc) : List api_Proc := l.map fun y => if y.Id = x.Id then x else y
theorem putP_mid {a b : List api_Proc} {x x' : api_Proc} (h : Uniq (a ++ x :: b)) (he : x'.Id = x.Id) : putP (a ++ x :: b) x' = a ++ x' :: b := by
 obtain ⟨h1, h2⟩ := h.mid
 have e : ∀ l : List api_Proc, (∀ y ∈ l, y.Id ≠ x.Id) → (l.map fun y => if y.Id = x'.Id then x' else y) = l := fun l hl => by
  conv => rhs; rw [← List.map_id l]
  exact List.map_congr_left fun y hy => by rw [he, if_neg (hl y hy)]; rfl
 unfold putP
 rw [List.map_append, List.map_cons, e a h1, e b h2, if_pos he.symm]
theorem lsAt0 {α : Type} {x : α} {l : List α} : lsAt (x :: l) 0 = some x := by
 have := lsAt_nat (l := x :: l) (i := 0) (by simp); simpa using this
theorem setL {p : api_Procs} {a b : List api_Proc} {x : api_Proc} (y : api_Proc) : List.set (a ++ x :: b) (Int.toNat ((a.length : Nat) : Int)) y = a ++ y :: b := by
 rw [Int.toNat_natCast]; exact set_mid
inductive At (p : api_Procs) (id : Int) : Prop
 | no (h : ixP p.L id = -1) (hf : findP p.L id = (noP, false))
 | yes (a : List api_Proc) (x : api_Proc) (b : List api_Proc) (hl : p.L = a ++ x :: b) (hx : x.Id = id) (h : ixP p.L id = (a.length : Int)) (hf : findP p.L id = (x, true))
theorem at_cases (p : api_Procs) (id : Int) : At p id := by
 rcases ixP_cases p.L id with ⟨h1, h2⟩ | ⟨a, x, b, h1, h2, h3, h4⟩
 ·exact .no h2 (findP_none h1)
 ·exact .yes a x b h1 h2 h4 (by rw [h1]; exact findP_some h2 h3)
def setS (p : api_Procs) (id n : Int) : api_Procs × Int :=
 if (findP p.L id).2 = false then (p, 42) else if stateB n = false then (p, 1) else ({ p with L := putP p.L { (findP p.L id).1 with State := n } }, 0)
theorem proc_Set_eq {p : api_Procs} (h : Mod p) (hu : Uniq p.L) (id n : Int) : proc_Set p id n = some (setS p id n) := by
 unfold proc_Set proc_state setS
 rw [proc_own_eq h, Option.bind_some, proc_index_eq h, Option.bind_some]
 rcases at_cases p id with ⟨h1, h2⟩ | ⟨a, x, b, hl, hx, h1, h2⟩
 ·rw [h1, h2]; rfl
 ·rw [h1, h2]
  have hn : ¬ ((a.length : Int) < 0) := by omega
  simp only [decide_eq_false hn, Bool.false_eq_true, if_false, Option.bind_some, reduceCtorEq, hl, lsAt_mid, setL]
  rw [hl] at hu
  simp only [putP_mid hu, Int.toNat_natCast, set_mid]
  unfold stateB
  cases hs : (decide (n = 1) || (decide (n = 2) || decide (n = 3))) <;> simp
def noteS (p : api_Procs) (id : Int) (s : Str) : api_Procs × Int :=
 if (findP p.L id).2 = false then (p, 42) else if shortB s = false then (p, 4) else if (8 : Int) ≤ (List.length (findP p.L id).1.Notes : Int) then (p, 22)
 else ({ p with L := putP p.L { (findP p.L id).1 with Notes := (findP p.L id).1.Notes ++ [s] } }, 0)
theorem proc_Note_eq {p : api_Procs} (h : Mod p) (hu : Uniq p.L) (id : Int) (s : Str) : proc_Note p id s = some (noteS p id s) := by
 unfold proc_Note proc_short noteS
 rw [proc_own_eq h, Option.bind_some, proc_index_eq h, Option.bind_some]
 rcases at_cases p id with ⟨h1, h2⟩ | ⟨a, x, b, hl, hx, h1, h2⟩
 ·rw [h1, h2]; rfl
 ·rw [h1, h2]
  have hn : ¬ ((a.length : Int) < 0) := by omega
  simp only [decide_eq_false hn, Bool.false_eq_true, if_false, Option.bind_some, reduceCtorEq, hl, lsAt_mid, setL]
  rw [hl] at hu
  simp only [putP_mid hu, Int.toNat_natCast, set_mid]
  unfold shortB
  by_cases a2 : (List.length s : Int) ≤ 1024
  ·by_cases a3 : (8 : Int) ≤ (List.length x.Notes : Int)
   ·simp [a2, a3]
   ·have c2 : appL 16 x.Notes [s] = some (x.Notes ++ [s]) := appL_small (by simp; omega) (by simp; omega)
    simp [a2, a3, c2]
  ·simp [a2]
theorem find_mem {p : api_Procs} {id : Int} (h : (findP p.L id).2 = true) : (findP p.L id).1 ∈ p.L ∧ (findP p.L id).1.Id = id := by
 rcases at_cases p id with ⟨h1, h2⟩ | ⟨a, x, b, hl, hx, h1, h2⟩
 ·rw [h2] at h; cases h
 ·rw [h2]; exact ⟨by rw [hl]; simp, hx⟩
end Go.Proofs.YtgmlbldjdhonjaaDoor
