import Derived.Test.YtfaobpifaobobaaDoorPV
namespace Go.Proofs.YtfaobpifaobobaaDoor
open Go.Vm
set_option autoImplicit false
set_option linter.unusedVariables false
set_option linter.unusedSimpArgs false
set_option maxRecDepth 100000
def Uniq (l : List api_Proc) : Prop := l.Pairwise (fun a b => a.Id ≠ b.Id)
theorem Good.uniq {p : api_Procs} (g : Good p) : Uniq p.L := g.inc.imp fun h => by omega
theorem Uniq.mid {a b : List api_Proc} {x : api_Proc} (h : Uniq (a ++ x :: b)) : (∀ y ∈ a, y.Id ≠ x.Id) ∧ ∀ y ∈ b, y.Id ≠ x.Id := by
 unfold Uniq at h
 rw [List.pairwise_append] at h
 obtain ⟨h1, h2, h3⟩ := h
 rw [List.pairwise_cons] at h2
 exact ⟨fun y hy => h3 y hy x (by simp), fun y hy => (h2.1 y hy).symm⟩
def putP (l : List api_Proc) (x : api_Proc) : List api_Proc := l.map fun y => if y.Id = x.Id then x else y
theorem putP_mid {a b : List api_Proc} {x x' : api_Proc} (h : Uniq (a ++ x :: b)) (he : x'.Id = x.Id) : putP (a ++ x :: b) x' = a ++ x' :: b := by
 obtain ⟨h1, h2⟩ := h.mid
 have e : ∀ l : List api_Proc, (∀ y ∈ l, y.Id ≠ x.Id) → (l.map fun y => if y.Id = x'.Id then x' else y) = l := fun l hl => by
  conv => rhs; rw [← List.map_id l]
  exact List.map_congr_left fun y hy => by rw [he, if_neg (hl y hy)]; rfl
 unfold putP
 rw [List.map_append, List.map_cons, e a h1, e b h2, if_pos he.symm]
theorem ref30_with_eq {p : api_Procs} (h : Mod p) (x : api_Proc) : ref30_with p x = some { p with L := putP p.L x } := by
 have hn := h.n
 have hm := m5
 unfold ref30_with
 refine loop_map p.L (fun y => if y.Id = x.Id then x else y) (fun s i => (i, s)) _ _ (fun s i hi hs => ?_) ?_
 ·show ref30_with_L9 p x (i : Int) s = _
  unfold ref30_with_L9
  have h1 : (i : Int) < (List.length p.L : Int) := by omega
  have ha : ∀ z : api_Proc, appL 168 s [z] = some (s ++ [z]) := fun z => appL_small (by simp; omega) (by simp; omega)
  simp only [decide_eq_true h1, if_true, lsAt_nat hi, Option.bind_some, ha, wrapNat hi (by omega)]
  by_cases hid : p.L[i].Id = x.Id
  ·simp [hid]
  ·simp [hid]
 ·show ref30_with_L9 p x _ _ = _
  unfold ref30_with_L9
  simp [putP]
theorem lsAt0 {α : Type} {x : α} {l : List α} : lsAt (x :: l) 0 = some x := by
 have := lsAt_nat (l := x :: l) (i := 0) (by simp); simpa using this
theorem cut1 {α : Type} {x : α} {l : List α} : cut (x :: l) 1 (List.length (x :: l) : Int) = some l := by
 have := cut_from (l := x :: l) (a := 1) (by simp)
 simpa using this
theorem setL {p : api_Procs} {a b : List api_Proc} {x : api_Proc} (y : api_Proc) : List.set (a ++ x :: b) (Int.toNat ((a.length : Nat) : Int)) y = a ++ y :: b := by
 rw [Int.toNat_natCast]; exact set_mid
inductive At (p : api_Procs) (id : Int) : Prop
 | no (h : ixP p.L id = -1) (hf : findP p.L id = (noP, false))
 | yes (a : List api_Proc) (x : api_Proc) (b : List api_Proc) (hl : p.L = a ++ x :: b) (hx : x.Id = id) (h : ixP p.L id = (a.length : Int)) (hf : findP p.L id = (x, true))
theorem at_cases (p : api_Procs) (id : Int) : At p id := by
 rcases ixP_cases p.L id with ⟨h1, h2⟩ | ⟨a, x, b, h1, h2, h3, h4⟩
 ·exact .no h2 (findP_none h1)
 ·exact .yes a x b h1 h2 h4 (by rw [h1]; exact findP_some h2 h3)
def setS (p : api_Procs) (id n : Int) : api_Procs × Int :=
 if (findP p.L id).2 = false then (p, 42) else if stateB n = false then (p, 1) else ({ p with L := putP p.L { (findP p.L id).1 with State := n } }, 0)
theorem ref30_Set_eq {p : api_Procs} (h : Mod p) (id n : Int) : ref30_Set p id n = some (setS p id n) := by
 unfold ref30_Set setS
 rw [ref30_Find_eq h, Option.bind_some]
 cases hf : (findP p.L id).2 with
 | false => rfl
 | true =>
  simp only [Bool.not_true, Bool.false_eq_true, if_false, reduceCtorEq]
  unfold stateB
  by_cases a1 : n = 1
  ·simp [a1, ref30_with_eq h]
  ·by_cases a2 : n = 2
   ·simp [a2, ref30_with_eq h]
   ·by_cases a3 : n = 3
    ·simp [a3, ref30_with_eq h]
    ·simp [a1, a2, a3]
theorem proc_Set_eq {p : api_Procs} (h : Mod p) (hu : Uniq p.L) (id n : Int) : proc_Set p id n = some (setS p id n) := by
 unfold proc_Set proc_state setS
 rw [proc_own_eq h, Option.bind_some, proc_index_eq h, Option.bind_some]
 rcases at_cases p id with ⟨h1, h2⟩ | ⟨a, x, b, hl, hx, h1, h2⟩
 ·rw [h1, h2]; rfl
 ·rw [h1, h2]
  have hn : ¬ ((a.length : Int) < 0) := by omega
  simp only [decide_eq_false hn, Bool.false_eq_true, if_false, Option.bind_some, reduceCtorEq, hl, lsAt_mid, setL]
  rw [hl] at hu
  simp only [putP_mid hu, Int.toNat_natCast, set_mid]
  unfold stateB
  cases hs : (decide (n = 1) || (decide (n = 2) || decide (n = 3))) <;> simp
def noteS (p : api_Procs) (id : Int) (s : Str) : api_Procs × Int :=
 if (findP p.L id).2 = false then (p, 42) else if shortB s = false then (p, 4) else if (8 : Int) ≤ (List.length (findP p.L id).1.Notes : Int) then (p, 22)
 else ({ p with L := putP p.L { (findP p.L id).1 with Notes := (findP p.L id).1.Notes ++ [s] } }, 0)
theorem ref30_Note_eq {p : api_Procs} (h : Mod p) (id : Int) (s : Str) : ref30_Note p id s = some (noteS p id s) := by
 unfold ref30_Note noteS
 rw [ref30_Find_eq h, Option.bind_some]
 cases hf : (findP p.L id).2 with
 | false => rfl
 | true =>
  simp only [Bool.not_true, Bool.false_eq_true, if_false, reduceCtorEq]
  unfold shortB
  by_cases a1 : (1024 : Int) < (List.length s : Int)
  ·have a2 : ¬ (List.length s : Int) ≤ 1024 := by omega
   simp [a1, a2]
  ·have a2 : (List.length s : Int) ≤ 1024 := by omega
   by_cases a3 : (8 : Int) ≤ (List.length (findP p.L id).1.Notes : Int)
   ·simp [a1, a2, a3]
   ·have c1 : appL 16 ([] : List Str) (findP p.L id).1.Notes = some (findP p.L id).1.Notes := by
     rw [appL_small (by simp; omega) (by simp; omega)]; rfl
    have c2 : appL 16 (findP p.L id).1.Notes [s] = some ((findP p.L id).1.Notes ++ [s]) := appL_small (by simp; omega) (by simp; omega)
    simp [a1, a2, a3, c1, c2, ref30_with_eq h]
theorem proc_Note_eq {p : api_Procs} (h : Mod p) (hu : Uniq p.L) (id : Int) (s : Str) : proc_Note p id s = some (noteS p id s) := by
 unfold proc_Note proc_short noteS
 rw [proc_own_eq h, Option.bind_some, proc_index_eq h, Option.bind_some]
 rcases at_cases p id with ⟨h1, h2⟩ | ⟨a, x, b, hl, hx, h1, h2⟩
 ·rw [h1, h2]; rfl
 ·rw [h1, h2]
  have hn : ¬ ((a.length : Int) < 0) := by omega
  simp only [decide_eq_false hn, Bool.false_eq_true, if_false, Option.bind_some, reduceCtorEq, hl, lsAt_mid, setL]
  rw [hl] at hu
  simp only [putP_mid hu, Int.toNat_natCast, set_mid]
  unfold shortB
  by_cases a2 : (List.length s : Int) ≤ 1024
  ·by_cases a3 : (8 : Int) ≤ (List.length x.Notes : Int)
   ·simp [a2, a3]
   ·have c2 : appL 16 x.Notes [s] = some (x.Notes ++ [s]) := appL_small (by simp; omega) (by simp; omega)
    simp [a2, a3, c2]
  ·simp [a2]
def takeS (p : api_Procs) (id : Int) : api_Procs × Str × Bool × Int :=
 if (findP p.L id).2 = false then (p, [], false, 42) else match (findP p.L id).1.Notes with
  | [] => (p, [], false, 0)
  | s :: r => ({ p with L := putP p.L { (findP p.L id).1 with Notes := r } }, s, true, 0)
theorem ref30_Take_eq {p : api_Procs} (h : Mod p) (id : Int) : ref30_Take p id = some (takeS p id) := by
 unfold ref30_Take takeS
 rw [ref30_Find_eq h, Option.bind_some]
 cases hf : (findP p.L id).2 with
 | false => rfl
 | true =>
  simp only [Bool.not_true, Bool.false_eq_true, if_false, reduceCtorEq]
  cases hN : (findP p.L id).1.Notes with
  | nil => simp
  | cons s r =>
   have : ¬ ((List.length (s :: r) : Int) = 0) := by simp; omega
   simp only [decide_eq_false this, Bool.false_eq_true, if_false, lsAt0, cut1, Option.bind_some, ref30_with_eq h]
theorem proc_Take_eq {p : api_Procs} (h : Mod p) (hu : Uniq p.L) (id : Int) : proc_Take p id = some (takeS p id) := by
 unfold proc_Take takeS
 rw [proc_own_eq h, Option.bind_some, proc_index_eq h, Option.bind_some]
 rcases at_cases p id with ⟨h1, h2⟩ | ⟨a, x, b, hl, hx, h1, h2⟩
 ·rw [h1, h2]; rfl
 ·rw [h1, h2]
  have hn : ¬ ((a.length : Int) < 0) := by omega
  simp only [decide_eq_false hn, Bool.false_eq_true, if_false, Option.bind_some, reduceCtorEq, hl, lsAt_mid, setL]
  rw [hl] at hu
  cases hN : x.Notes with
  | nil => simp
  | cons s r =>
   have : ¬ ((List.length (s :: r) : Int) = 0) := by simp; omega
   simp only [decide_eq_false this, Bool.false_eq_true, if_false, lsAt0, cut1, Option.bind_some]
   simp only [putP_mid hu, Int.toNat_natCast, set_mid]
def awaitS (p : api_Procs) (id : Int) : api_Procs × api_Wait × Bool × Int :=
 if (findP p.L id).2 = false then (p, api_Wait.mk 0 [], false, 42) else match (findP p.L id).1.Waits with
  | [] => if (p.L.any fun x => decide (x.Parent = id) && !x.Alone) = true then (p, api_Wait.mk 0 [], true, 0) else (p, api_Wait.mk 0 [], false, 42)
  | w :: r => ({ p with L := putP p.L { (findP p.L id).1 with Waits := r } }, w, false, 0)
theorem ref30_Await_eq {p : api_Procs} (h : Mod p) (id : Int) : ref30_Await p id = some (awaitS p id) := by
 have hn := h.n
 have hm := m5
 have lp : loopM (fun s => ref30_Await_L14 p id s) 0 = some (if (p.L.any fun x => decide (x.Parent = id) && !x.Alone) = true then (p, api_Wait.mk 0 [], true, 0) else (p, api_Wait.mk 0 [], false, 42)) := by
  have := loop_allF p.L (fun x => !(decide (x.Parent = id) && !x.Alone)) (p, api_Wait.mk 0 [], true, 0) (p, api_Wait.mk 0 [], false, 42) (fun s => ref30_Await_L14 p id s) (fun i hi => by
   unfold ref30_Await_L14
   have h1 : (i : Int) < (List.length p.L : Int) := by omega
   simp only [decide_eq_true h1, if_true, lsAt_nat hi, Option.bind_some, wrapNat hi (by omega)]
   cases decide (p.L[i].Parent = id) <;> cases p.L[i].Alone <;> rfl) (by
   unfold ref30_Await_L14
   simp)
  rw [this]
  have e : (p.L.all fun x => !(decide (x.Parent = id) && !x.Alone)) = !(p.L.any fun x => decide (x.Parent = id) && !x.Alone) := by
   rw [List.not_any_eq_all_not]
  rw [e]
  cases (p.L.any fun x => decide (x.Parent = id) && !x.Alone) <;> rfl
 unfold ref30_Await awaitS
 rw [ref30_Find_eq h, Option.bind_some]
 cases hf : (findP p.L id).2 with
 | false => rfl
 | true =>
  simp only [Bool.not_true, Bool.false_eq_true, if_false, reduceCtorEq]
  cases hN : (findP p.L id).1.Waits with
  | nil => simp [lp]
  | cons s r =>
   have : (0 : Int) < (List.length (s :: r) : Int) := by simp <;> omega
   simp only [decide_eq_true this, if_true, lsAt0, cut1, Option.bind_some, ref30_with_eq h]
theorem proc_Await_eq {p : api_Procs} (h : Mod p) (hu : Uniq p.L) (id : Int) : proc_Await p id = some (awaitS p id) := by
 have hn := h.n
 have hm := m5
 have lp : slices_ContainsFunc_api_Proc_api_Proc_f35 p.L id = some (p.L.any fun x => decide (x.Parent = id) && !x.Alone) := by
  unfold slices_ContainsFunc_api_Proc_api_Proc_f35 slices_IndexFunc_api_Proc_api_Proc_f35
  have e : loopM (fun s => slices_IndexFunc_api_Proc_api_Proc_f35_L6 p.L id s) 0 = some (ixF (fun x : api_Proc => decide (x.Parent = id) && !x.Alone) p.L 0) := by
   refine loop_ix p.L (fun x => decide (x.Parent = id) && !x.Alone) _ (fun i hi => ?_) ?_
   ·unfold slices_IndexFunc_api_Proc_api_Proc_f35_L6 proc_Await_1
    have h1 : (i : Int) < (List.length p.L : Int) := by omega
    simp only [decide_eq_true h1, if_true, lsAt_nat hi, Option.bind_some, wrapNat hi (by omega)]
    split <;> rfl
   ·unfold slices_IndexFunc_api_Proc_api_Proc_f35_L6
    simp
  rw [e]
  simp only [Option.bind_some]
  congr 1
  rw [Bool.eq_iff_iff, decide_eq_true_eq]
  rcases ixF_cases (fun x : api_Proc => decide (x.Parent = id) && !x.Alone) p.L 0 with ⟨h1, h2⟩ | ⟨a, x, b, h1, h2, h3, h4⟩
  ·rw [h2]
   constructor
   ·intro h; omega
   ·intro h
    obtain ⟨x, hx, h⟩ := List.any_eq_true.1 h
    rw [h1 x hx] at h; cases h
  ·rw [h4]
   exact ⟨fun _ => List.any_eq_true.2 ⟨x, by rw [h1]; simp, h2⟩, fun _ => by omega⟩
 unfold proc_Await awaitS
 rw [proc_own_eq h, Option.bind_some, proc_index_eq h, Option.bind_some]
 rcases at_cases p id with ⟨h1, h2⟩ | ⟨a, x, b, hl, hx, h1, h2⟩
 ·rw [h1, h2]; rfl
 ·rw [h1, h2, lp]
  have hn : ¬ ((a.length : Int) < 0) := by omega
  have e1 : lsAt p.L (a.length : Int) = some x := by rw [hl]; exact lsAt_mid
  have e2 : ∀ y : api_Proc, y.Id = x.Id → List.set p.L (Int.toNat ((a.length : Nat) : Int)) y = putP p.L y := fun y hy => by
   rw [hl] at hu ⊢
   rw [putP_mid hu hy]
   exact setL (p := p) y
  simp only [decide_eq_false hn, Bool.false_eq_true, if_false, Option.bind_some, reduceCtorEq, e1]
  cases hN : x.Waits with
  | nil => cases (p.L.any fun x => decide (x.Parent = id) && !x.Alone) <;> simp
  | cons s r =>
   have : (0 : Int) < (List.length (s :: r) : Int) := by simp <;> omega
   simp only [decide_eq_true this, if_true, lsAt0, cut1, Option.bind_some]
   simp only [e2]
def cdS (p : api_Procs) (id : Int) (d : Str) : api_Procs × Int :=
 if (findP p.L id).2 = false then (p, 42) else if (joinP (findP p.L id).1.Cwd d).2 ≠ 0 then (p, (joinP (findP p.L id).1.Cwd d).2)
 else ({ p with L := putP p.L { (findP p.L id).1 with Cwd := (joinP (findP p.L id).1.Cwd d).1 } }, 0)
theorem find_mem {p : api_Procs} {id : Int} (h : (findP p.L id).2 = true) : (findP p.L id).1 ∈ p.L ∧ (findP p.L id).1.Id = id := by
 rcases at_cases p id with ⟨h1, h2⟩ | ⟨a, x, b, hl, hx, h1, h2⟩
 ·rw [h2] at h; cases h
 ·rw [h2]; exact ⟨by rw [hl]; simp, hx⟩
theorem ref30_Cd_eq {p : api_Procs} (h : Mod p) (id : Int) {d : Str} (hd : d.length ≤ 100000) : ref30_Cd p id d = some (cdS p id d) := by
 unfold ref30_Cd cdS
 rw [ref30_Find_eq h, Option.bind_some]
 cases hf : (findP p.L id).2 with
 | false => rfl
 | true =>
  have hx := h.e _ (find_mem hf).1
  simp only [Bool.not_true, Bool.false_eq_true, if_false, reduceCtorEq]
  rw [ref03_Join_all (by omega) (by omega), Option.bind_some]
  by_cases h0 : (joinP (findP p.L id).1.Cwd d).2 = 0
  ·simp [h0, ref30_with_eq h]
  ·simp [h0]
theorem proc_Cd_eq {p : api_Procs} (h : Mod p) (hu : Uniq p.L) (id : Int) {d : Str} (hd : d.length ≤ 100000) : proc_Cd p id d = some (cdS p id d) := by
 unfold proc_Cd cdS
 rw [proc_own_eq h, Option.bind_some, proc_index_eq h, Option.bind_some]
 rcases at_cases p id with ⟨h1, h2⟩ | ⟨a, x, b, hl, hx, h1, h2⟩
 ·rw [h1, h2]; rfl
 ·have hxx := h.e x (by rw [hl]; simp)
  rw [h1, h2]
  have hn : ¬ ((a.length : Int) < 0) := by omega
  simp only [decide_eq_false hn, Bool.false_eq_true, if_false, Option.bind_some, reduceCtorEq, hl, lsAt_mid, setL]
  rw [hl] at hu
  rw [path_Join_all (by omega) (by omega), Option.bind_some]
  simp only [putP_mid hu, Int.toNat_natCast, set_mid]
  by_cases h0 : (joinP x.Cwd d).2 = 0
  ·simp [h0]
  ·simp [h0]
def flagB (n f : Int) : Bool := decide (Int.tmod (IntKind.wrap .i64 (Int.tdiv n f)) 2 = 1)
def contraB (n : Int) : Bool := (flagB n 1 && flagB n 8) || ((flagB n 2 && flagB n 16) || (flagB n 4 && flagB n 32))
def pairB (n q : Int) : Bool := decide (IntKind.wrap .i64 ((BitVec.ofInt (IntKind.bits .i64) n &&& BitVec.ofInt (IntKind.bits .i64) q).toNat : Nat) = q)
def fitsB (n : Int) : Bool := decide (IntKind.wrap .i64 ((BitVec.ofInt (IntKind.bits .i64) n &&& ~~~ (BitVec.ofInt (IntKind.bits .i64) 127)).toNat : Nat) = 0)
theorem flags_small : (List.range 128).all (fun k => fitsB (k : Nat) && (([9, 18, 36].any fun q => pairB (k : Nat) q) == contraB (k : Nat)) && (nzAnd (k : Nat) 9 == (flagB (k : Nat) 1 || flagB (k : Nat) 8)) && (nzAnd (k : Nat) 18 == (flagB (k : Nat) 2 || flagB (k : Nat) 16)) &&
  (nzAnd (k : Nat) 36 == (flagB (k : Nat) 4 || flagB (k : Nat) 32)) && (nzAnd (k : Nat) 64 == flagB (k : Nat) 64)) = true := by
 decide
theorem flags_at {n : Int} (h0 : 0 ≤ n) (h1 : n ≤ 127) : fitsB n = true ∧ ([9, 18, 36].any fun q => pairB n q) = contraB n ∧ nzAnd n 9 = (flagB n 1 || flagB n 8) ∧ nzAnd n 18 = (flagB n 2 || flagB n 16) ∧ nzAnd n 36 = (flagB n 4 || flagB n 32) ∧ nzAnd n 64 = flagB n 64 := by
 have h := List.all_eq_true.1 flags_small n.toNat (List.mem_range.2 (by omega))
 rw [Int.toNat_of_nonneg h0] at h
 simp only [Bool.and_eq_true, beq_iff_eq] at h
 obtain ⟨⟨⟨⟨⟨a1, a2⟩, a3⟩, a4⟩, a5⟩, a6⟩ := h
 exact ⟨a1, a2, a3, a4, a5, a6⟩
theorem flags_big {n : Int} (h : 127 < n) (h2 : n ≤ 9223372036854775807) : fitsB n = false := by
 cases hf : fitsB n with
 | false => rfl
 | true =>
  exfalso
  unfold fitsB at hf
  have hb : IntKind.bits .i64 = 64 := rfl
  rw [decide_eq_true_eq] at hf
  have hx : (BitVec.ofInt (IntKind.bits .i64) n).toNat = n.toNat := by
   rw [BitVec.toNat_ofInt, hb]
   omega
  have hle : (BitVec.ofInt (IntKind.bits .i64) n &&& ~~~ (BitVec.ofInt (IntKind.bits .i64) 127)).toNat ≤ n.toNat := by
   rw [BitVec.toNat_and, hx]; exact Nat.and_le_left
  rw [wrap64 (by omega) (by omega)] at hf
  have hz : BitVec.ofInt (IntKind.bits .i64) n &&& ~~~ (BitVec.ofInt (IntKind.bits .i64) 127) = 0 := by
   apply BitVec.eq_of_toNat_eq
   simp only [BitVec.toNat_ofNat, BitVec.ofNat_eq_ofNat, Nat.zero_mod]
   omega
  have hx2 : BitVec.ofInt (IntKind.bits .i64) n = BitVec.ofInt (IntKind.bits .i64) n &&& BitVec.ofInt (IntKind.bits .i64) 127 := by
   apply BitVec.eq_of_getElem_eq
   intro i hi
   have := congrArg (fun v : BitVec (IntKind.bits .i64) => v[i]) hz
   simp only [BitVec.getElem_and, BitVec.getElem_not, BitVec.ofNat_eq_ofNat, BitVec.getElem_zero] at this ⊢
   cases h1 : (BitVec.ofInt (IntKind.bits .i64) n)[i] <;> cases h2 : (BitVec.ofInt (IntKind.bits .i64) 127)[i] <;> simp_all
  have := congrArg BitVec.toNat hx2
  rw [BitVec.toNat_and, hx] at this
  have h127 : (BitVec.ofInt (IntKind.bits .i64) 127).toNat = 127 := rfl
  rw [h127] at this
  have := Nat.and_le_right (n := n.toNat) (m := 127)
  omega
def forkC (p : api_Procs) (id n : Int) (x : api_Proc) : api_Proc :=
 api_Proc.mk p.Next id 1 x.User x.Name (if (flagB n 1 || flagB n 8) = true then p.Group else x.Ns) (if (flagB n 2 || flagB n 16) = true then (if (flagB n 1 || flagB n 8) = true then p.Group + 1 else p.Group) else x.Env)
  (if (flagB n 4 || flagB n 32) = true then (if (flagB n 2 || flagB n 16) = true then (if (flagB n 1 || flagB n 8) = true then p.Group + 1 else p.Group) + 1 else (if (flagB n 1 || flagB n 8) = true then p.Group + 1 else p.Group)) else x.Fds) x.Cwd [] [] [] (flagB n 64)
def forkG (p : api_Procs) (n : Int) : Int :=
 if (flagB n 4 || flagB n 32) = true then (if (flagB n 2 || flagB n 16) = true then (if (flagB n 1 || flagB n 8) = true then p.Group + 1 else p.Group) + 1 else (if (flagB n 1 || flagB n 8) = true then p.Group + 1 else p.Group)) + 1
 else (if (flagB n 2 || flagB n 16) = true then (if (flagB n 1 || flagB n 8) = true then p.Group + 1 else p.Group) + 1 else (if (flagB n 1 || flagB n 8) = true then p.Group + 1 else p.Group))
def forkFull (p : api_Procs) : Bool := decide (64 ≤ (List.length p.L : Int)) || (decide (1048575 < p.Next) || decide (1099511627774 < p.Group))
def forkS (p : api_Procs) (id n : Int) : api_Procs × Int × Int :=
 if (findP p.L id).2 = false then (p, 0, 42) else if (decide (n < 0) || (decide (127 < n) || contraB n)) = true then (p, 0, 1) else if forkFull p = true then (p, 0, 22)
 else (api_Procs.mk (p.Next + 1) (forkG p n) (p.L ++ [forkC p id n (findP p.L id).1]), p.Next, 0)
theorem ref30_flag_eq {n f : Int} (hf : f ≠ 0) : ref30_flag n f = some (flagB n f) := by
 unfold ref30_flag quoI flagB
 rw [if_neg hf]; rfl
theorem ref30_choose_eq {o g n a b : Int} (ha : a ≠ 0) (hb : b ≠ 0) (h1 : 0 ≤ g) (h2 : g ≤ 2000000000000) : ref30_choose o g n a b = some (if (flagB n a || flagB n b) = true then (g, g + 1) else (o, g)) := by
 unfold ref30_choose
 rw [ref30_flag_eq ha, ref30_flag_eq hb, wrap64 (by omega) (by omega)]
 cases flagB n a <;> cases flagB n b <;> rfl
theorem Good.pos {p : api_Procs} (g : Good p) : 1 < p.Next := by
 obtain ⟨x, r, hl, h1, _⟩ := g.fst
 have := g.lst x (by rw [hl]; simp)
 omega
theorem ref30_Fork_eq {p : api_Procs} (h : Mod p) (g : Good p) (id n : Int) : ref30_Fork p id n = some (forkS p id n) := by
 have hn := h.n
 have hg1 := g.g1
 have hg2 := g.g2
 have hnx := g.pos
 have hnx2 := g.nx
 unfold ref30_Fork forkS
 rw [ref30_Find_eq h, Option.bind_some]
 cases hf : (findP p.L id).2 with
 | false => rfl
 | true =>
  simp only [Bool.not_true, Bool.false_eq_true, if_false, reduceCtorEq]
  have hc : ∀ K : Bool → Option (api_Procs × Int × Int), ((if (decide (n < 0)) then some true else if (decide (127 < n)) then some true else (ref30_flag n 1).bind fun x5 => if x5 then (ref30_flag n 8).bind fun x7 => if x7 then some true else (ref30_flag n 2).bind fun x9 => if x9 then (ref30_flag n 16).bind fun x11 => if x11 then some true else (ref30_flag n 4).bind fun x13 => if x13 then (ref30_flag n 32).bind fun x15 => some x15 else some false else (ref30_flag n 4).bind fun x16 => if x16 then (ref30_flag n 32).bind fun x18 => some x18 else some false else (ref30_flag n 2).bind fun x19 => if x19 then (ref30_flag n 16).bind fun x21 => if x21 then some true else (ref30_flag n 4).bind fun x23 => if x23 then (ref30_flag n 32).bind fun x25 => some x25 else some false else (ref30_flag n 4).bind fun x26 => if x26 then (ref30_flag n 32).bind fun x28 => some x28 else some false).bind K) = K (decide (n < 0) || (decide (127 < n) || contraB n)) := by
   intro K
   simp only [ref30_flag_eq (n := n) (f := 1) (by omega), ref30_flag_eq (n := n) (f := 8) (by omega), ref30_flag_eq (n := n) (f := 2) (by omega), ref30_flag_eq (n := n) (f := 16) (by omega), ref30_flag_eq (n := n) (f := 4) (by omega), ref30_flag_eq (n := n) (f := 32) (by omega), Option.bind_some]
   unfold contraB
   cases decide (n < 0) <;> cases decide (127 < n) <;> cases flagB n 1 <;> cases flagB n 8 <;> cases flagB n 2 <;> cases flagB n 16 <;> cases flagB n 4 <;> cases flagB n 32 <;> rfl
  rw [hc]
  cases hb : (decide (n < 0) || (decide (127 < n) || contraB n)) with
  | true => rfl
  | false =>
   simp only [Bool.false_eq_true, if_false]
   unfold forkFull
   cases hfull : (decide (64 ≤ (List.length p.L : Int)) || (decide (1048575 < p.Next) || decide (1099511627774 < p.Group))) with
   | true => rfl
   | false =>
    simp only [Bool.or_eq_false_iff, decide_eq_false_iff_not] at hfull
    have c1 : appL 168 ([] : List api_Proc) p.L = some p.L := by rw [appL_small (by simp; omega) (by simp; omega)]; rfl
    have c2 : ∀ z : api_Proc, appL 168 p.L [z] = some (p.L ++ [z]) := fun z => appL_small (by simp; omega) (by simp; omega)
    rw [ref30_flag_eq (by omega), Option.bind_some, ref30_choose_eq (by omega) (by omega) (by omega) (by omega), Option.bind_some]
    rw [ref30_choose_eq (by omega) (by omega) (by split <;> omega) (by split <;> omega), Option.bind_some]
    rw [ref30_choose_eq (by omega) (by omega) (by split <;> split <;> omega) (by split <;> split <;> omega), Option.bind_some, c1, Option.bind_some, c2, Option.bind_some, wrap64 (by omega) (by omega)]
    unfold forkC forkG
    cases (flagB n 1 || flagB n 8) <;> cases (flagB n 2 || flagB n 16) <;> cases (flagB n 4 || flagB n 32) <;> rfl
theorem proc_contradicts_eq (n : Int) : proc_contradicts n = some ([9, 18, 36].any fun q => pairB n q) := by
 unfold proc_contradicts
 have := loop_allF [(9 : Int), 18, 36] (fun q => !pairB n q) true false (fun s => proc_contradicts_L3 n s) (fun i hi => by
  unfold proc_contradicts_L3
  have hi3 : i < 3 := hi
  have h1 : (i : Int) < 3 := by omega
  simp only [decide_eq_true h1, if_true, lsAt_nat hi, Option.bind_some, wrapNat hi3 (by unfold maxLen; omega)]
  generalize [(9 : Int), 18, 36][i] = v
  unfold pairB
  split <;> simp_all) (by
  unfold proc_contradicts_L3
  simp)
 rw [this]
 rw [show ([(9 : Int), 18, 36].all fun q => !pairB n q) = !([9, 18, 36].any fun q => pairB n q) by rw [List.not_any_eq_all_not]]
 cases ([(9 : Int), 18, 36].any fun q => pairB n q) <;> rfl
theorem proc_Fork_eq {p : api_Procs} (h : Mod p) (g : Good p) (id n : Int) (hn64 : n ≤ 9223372036854775807) : proc_Fork p id n = some (forkS p id n) := by
 have hn := h.n
 have hg1 := g.g1
 have hg2 := g.g2
 have hnx := g.pos
 have hnx2 := g.nx
 have K7 : ∀ (a : List api_Proc) (x : api_Proc) (b : List api_Proc), p.L = a ++ x :: b → 0 ≤ n → n ≤ 127 → ∀ f, (f = false → p.L.length < 64 ∧ p.Next ≤ 1048575 ∧ p.Group ≤ 1099511627774) →
   proc_Fork_K7 id n p (a.length : Int) f = some (if f = true then (p, 0, 22) else (api_Procs.mk (p.Next + 1) (forkG p n) (p.L ++ [forkC p id n x]), p.Next, 0)) := by
  intro a x b hl h0 h1 f hf
  unfold proc_Fork_K7
  cases f with
  | true => rfl
  | false =>
   obtain ⟨f1, f2, f3⟩ := hf rfl
   obtain ⟨q1, q2, q3, q4, q5, q6⟩ := flags_at h0 h1
   have e1 : lsAt p.L (a.length : Int) = some x := by rw [hl]; exact lsAt_mid
   have c2 : ∀ z : api_Proc, appL 168 p.L [z] = some (p.L ++ [z]) := fun z => appL_small (by simp; omega) (by simp; omega)
   have q6' : (!decide ((IntKind.wrap .i64 ((BitVec.ofInt (IntKind.bits .i64) n &&& (BitVec.ofInt (IntKind.bits .i64) 64)).toNat : Nat)) = 0)) = flagB n 64 := q6
   simp only [Bool.false_eq_true, if_false, e1, Option.bind_some, q3, q4, q5, q6', c2]
   have w1 : IntKind.wrap .i64 (p.Next + 1) = p.Next + 1 := wrap64 (by omega) (by omega)
   have w2 : IntKind.wrap .i64 (p.Group + 1) = p.Group + 1 := wrap64 (by omega) (by omega)
   have w3 : IntKind.wrap .i64 (p.Group + 1 + 1) = p.Group + 1 + 1 := wrap64 (by omega) (by omega)
   have w4 : IntKind.wrap .i64 (p.Group + 1 + 1 + 1) = p.Group + 1 + 1 + 1 := wrap64 (by omega) (by omega)
   unfold forkC forkG
   cases (flagB n 1 || flagB n 8) <;> cases (flagB n 2 || flagB n 16) <;> cases (flagB n 4 || flagB n 32) <;> simp only [Bool.false_eq_true, if_false, if_true, w1, w2, w3, w4]
 unfold proc_Fork forkS
 rw [proc_own_eq h, Option.bind_some, proc_index_eq h, Option.bind_some]
 rcases at_cases p id with ⟨h1, h2⟩ | ⟨a, x, b, hl, hx, h1, h2⟩
 ·rw [h1, h2]; rfl
 ·rw [h1, h2]
  have hz : ¬ ((a.length : Int) < 0) := by omega
  have K4t : proc_Fork_K4 id n p (a.length : Int) true = some (p, 0, 1) := rfl
  simp only [decide_eq_false hz, Bool.false_eq_true, if_false, reduceCtorEq]
  by_cases a1 : n < 0
  ·simp [a1, K4t]
  ·by_cases a2 : 127 < n
   ·have := flags_big a2 hn64
    unfold fitsB at this
    simp only [decide_eq_false a1, Bool.false_eq_true, if_false, this, Bool.not_false, if_true, K4t]
    simp [a2]
   ·obtain ⟨q1, q2, _⟩ := flags_at (n := n) (by omega) (by omega)
    unfold fitsB at q1
    simp only [decide_eq_false a1, Bool.false_eq_true, if_false, q1, Bool.not_true, proc_contradicts_eq, q2, Option.bind_some, decide_eq_false a2, Bool.false_or]
    cases hcb : contraB n with
    | true => simp [K4t]
    | false =>
     simp only [Bool.false_eq_true, if_false]
     unfold proc_Fork_K4 forkFull
     simp only [Bool.false_eq_true, if_false]
     by_cases b1 : (64 : Int) ≤ (List.length p.L : Int)
     ·rw [decide_eq_true b1, K7 a x b hl (by omega) (by omega) true (by simp)]; simp
     ·by_cases b2 : (1048575 : Int) < p.Next
      ·rw [decide_eq_false b1, decide_eq_true b2, K7 a x b hl (by omega) (by omega) true (by simp)]; simp
      ·by_cases b3 : (1099511627774 : Int) < p.Group
       ·rw [decide_eq_false b1, decide_eq_false b2, decide_eq_true b3, K7 a x b hl (by omega) (by omega) true (by simp)]; simp
       ·rw [decide_eq_false b1, decide_eq_false b2, decide_eq_false b3, K7 a x b hl (by omega) (by omega) false (fun _ => by omega)]; simp
end Go.Proofs.YtfaobpifaobobaaDoor
