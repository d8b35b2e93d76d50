/- Calls on tables of processes: the program's and the specification's come to the same. -/
import Derived.Test.YtfaobpifaobobaaDoorPV
namespace Go.Proofs.YtfaobpifaobobaaDoor
open Go.Vm
set_option autoImplicit false
set_option linter.unusedVariables false
set_option linter.unusedSimpArgs false
set_option maxRecDepth 100000

def Uniq (l : List api_Proc) : Prop := l.Pairwise (fun a b => a.Id ≠ b.Id)
theorem Good.uniq {p : api_Procs} (g : Good p) : Uniq p.L := g.inc.imp fun h => by omega
theorem Uniq.mid {a b : List api_Proc} {x : api_Proc} (h : Uniq (a ++ x :: b)) : (∀ y ∈ a, y.Id ≠ x.Id) ∧ ∀ y ∈ b, y.Id ≠ x.Id := by
  unfold Uniq at h
  rw [List.pairwise_append] at h
  obtain ⟨h1, h2, h3⟩ := h
  rw [List.pairwise_cons] at h2
  exact ⟨fun y hy => h3 y hy x (by simp), fun y hy => (h2.1 y hy).symm⟩
/-- one process is put in the place of the one with its Id -/
def putP (l : List api_Proc) (x : api_Proc) : List api_Proc := l.map fun y => if y.Id = x.Id then x else y
theorem putP_mid {a b : List api_Proc} {x x' : api_Proc} (h : Uniq (a ++ x :: b)) (he : x'.Id = x.Id) : putP (a ++ x :: b) x' = a ++ x' :: b := by
  obtain ⟨h1, h2⟩ := h.mid
  have e : ∀ l : List api_Proc, (∀ y ∈ l, y.Id ≠ x.Id) → (l.map fun y => if y.Id = x'.Id then x' else y) = l := fun l hl => by
    conv => rhs; rw [← List.map_id l]
    exact List.map_congr_left fun y hy => by rw [he, if_neg (hl y hy)]; rfl
  unfold putP
  rw [List.map_append, List.map_cons, e a h1, e b h2, if_pos he.symm]
theorem lsAt0 {α : Type} {x : α} {l : List α} : lsAt (x :: l) 0 = some x := by
  have := lsAt_nat (l := x :: l) (i := 0) (by simp); simpa using this
theorem cut1 {α : Type} {x : α} {l : List α} : cut (x :: l) 1 (List.length (x :: l) : Int) = some l := by
  have := cut_from (l := x :: l) (a := 1) (by simp)
  simpa using this
theorem setL {p : api_Procs} {a b : List api_Proc} {x : api_Proc} (y : api_Proc) : List.set (a ++ x :: b) (Int.toNat ((a.length : Nat) : Int)) y = a ++ y :: b := by
  rw [Int.toNat_natCast]; exact set_mid
/-- where a process is found, and where not -/
inductive At (p : api_Procs) (id : Int) : Prop
  | no (h : ixP p.L id = -1) (hf : findP p.L id = (noP, false))
  | yes (a : List api_Proc) (x : api_Proc) (b : List api_Proc) (hl : p.L = a ++ x :: b) (hx : x.Id = id) (h : ixP p.L id = (a.length : Int)) (hf : findP p.L id = (x, true))
theorem at_cases (p : api_Procs) (id : Int) : At p id := by
  rcases ixP_cases p.L id with ⟨h1, h2⟩ | ⟨a, x, b, h1, h2, h3, h4⟩
  · exact .no h2 (findP_none h1)
  · exact .yes a x b h1 h2 h4 (by rw [h1]; exact findP_some h2 h3)

/-! ### Set, Note, Take, Await, Cd -/
def awaitS (p : api_Procs) (id : Int) : api_Procs × api_Wait × Bool × Int :=
  if (findP p.L id).2 = false then (p, api_Wait.mk 0 [], false, 42) else match (findP p.L id).1.Waits with
    | [] => if (p.L.any fun x => decide (x.Parent = id) && !x.Alone) = true then (p, api_Wait.mk 0 [], true, 0) else (p, api_Wait.mk 0 [], false, 42)
    | w :: r => ({ p with L := putP p.L { (findP p.L id).1 with Waits := r } }, w, false, 0)
theorem proc_Await_eq {p : api_Procs} (h : Mod p) (hu : Uniq p.L) (id : Int) : proc_Await p id = some (awaitS p id) := by
  have hn := h.n
  have hm := m5
  have lp : slices_ContainsFunc_api_Proc_api_Proc_f35 p.L id = some (p.L.any fun x => decide (x.Parent = id) && !x.Alone) := by
    unfold slices_ContainsFunc_api_Proc_api_Proc_f35 slices_IndexFunc_api_Proc_api_Proc_f35
    have e : loopM (fun s => slices_IndexFunc_api_Proc_api_Proc_f35_L6 p.L id s) 0 = some (ixF (fun x : api_Proc => decide (x.Parent = id) && !x.Alone) p.L 0) := by
      refine loop_ix p.L (fun x => decide (x.Parent = id) && !x.Alone) _ (fun i hi => ?_) ?_
      · unfold slices_IndexFunc_api_Proc_api_Proc_f35_L6 proc_Await_1
        have h1 : (i : Int) < (List.length p.L : Int) := by omega
        simp only [decide_eq_true h1, if_true, lsAt_nat hi, Option.bind_some, wrapNat hi (by omega)]
        split <;> rfl
      · unfold slices_IndexFunc_api_Proc_api_Proc_f35_L6
        simp
    rw [e]
    simp only [Option.bind_some]
    congr 1
    rw [Bool.eq_iff_iff, decide_eq_true_eq]
    rcases ixF_cases (fun x : api_Proc => decide (x.Parent = id) && !x.Alone) p.L 0 with ⟨h1, h2⟩ | ⟨a, x, b, h1, h2, h3, h4⟩
    · rw [h2]
      constructor
      · intro h; omega
      · intro h
        obtain ⟨x, hx, h⟩ := List.any_eq_true.1 h
        rw [h1 x hx] at h; cases h
    · rw [h4]
      exact ⟨fun _ => List.any_eq_true.2 ⟨x, by rw [h1]; simp, h2⟩, fun _ => by omega⟩
  unfold proc_Await awaitS
  rw [proc_own_eq h, Option.bind_some, proc_index_eq h, Option.bind_some]
  rcases at_cases p id with ⟨h1, h2⟩ | ⟨a, x, b, hl, hx, h1, h2⟩
  · rw [h1, h2]; rfl
  · rw [h1, h2, lp]
    have hn : ¬ ((a.length : Int) < 0) := by omega
    have e1 : lsAt p.L (a.length : Int) = some x := by rw [hl]; exact lsAt_mid
    have e2 : ∀ y : api_Proc, y.Id = x.Id → List.set p.L (Int.toNat ((a.length : Nat) : Int)) y = putP p.L y := fun y hy => by
      rw [hl] at hu ⊢
      rw [putP_mid hu hy]
      exact setL (p := p) y
    simp only [decide_eq_false hn, Bool.false_eq_true, if_false, Option.bind_some, reduceCtorEq, e1]
    cases hN : x.Waits with
    | nil => cases (p.L.any fun x => decide (x.Parent = id) && !x.Alone) <;> simp
    | cons s r =>
      have : (0 : Int) < (List.length (s :: r) : Int) := by simp <;> omega
      simp only [decide_eq_true this, if_true, lsAt0, cut1, Option.bind_some]
      simp only [e2]
theorem find_mem {p : api_Procs} {id : Int} (h : (findP p.L id).2 = true) : (findP p.L id).1 ∈ p.L ∧ (findP p.L id).1.Id = id := by
  rcases at_cases p id with ⟨h1, h2⟩ | ⟨a, x, b, hl, hx, h1, h2⟩
  · rw [h2] at h; cases h
  · rw [h2]; exact ⟨by rw [hl]; simp, hx⟩
/-! ### Fork -/
def flagB (n f : Int) : Bool := decide (Int.tmod (IntKind.wrap .i64 (Int.tdiv n f)) 2 = 1)
def contraB (n : Int) : Bool := (flagB n 1 && flagB n 8) || ((flagB n 2 && flagB n 16) || (flagB n 4 && flagB n 32))
def pairB (n q : Int) : Bool := decide (IntKind.wrap .i64 ((BitVec.ofInt (IntKind.bits .i64) n &&& BitVec.ofInt (IntKind.bits .i64) q).toNat : Nat) = q)
def fitsB (n : Int) : Bool := decide (IntKind.wrap .i64 ((BitVec.ofInt (IntKind.bits .i64) n &&& ~~~ (BitVec.ofInt (IntKind.bits .i64) 127)).toNat : Nat) = 0)
theorem flags_small : (List.range 128).all (fun k => fitsB (k : Nat) && (([9, 18, 36].any fun q => pairB (k : Nat) q) == contraB (k : Nat)) && (nzAnd (k : Nat) 9 == (flagB (k : Nat) 1 || flagB (k : Nat) 8)) && (nzAnd (k : Nat) 18 == (flagB (k : Nat) 2 || flagB (k : Nat) 16)) &&
    (nzAnd (k : Nat) 36 == (flagB (k : Nat) 4 || flagB (k : Nat) 32)) && (nzAnd (k : Nat) 64 == flagB (k : Nat) 64)) = true := by
  decide
theorem flags_at {n : Int} (h0 : 0 ≤ n) (h1 : n ≤ 127) : fitsB n = true ∧ ([9, 18, 36].any fun q => pairB n q) = contraB n ∧ nzAnd n 9 = (flagB n 1 || flagB n 8) ∧ nzAnd n 18 = (flagB n 2 || flagB n 16) ∧ nzAnd n 36 = (flagB n 4 || flagB n 32) ∧ nzAnd n 64 = flagB n 64 := by
  have h := List.all_eq_true.1 flags_small n.toNat (List.mem_range.2 (by omega))
  rw [Int.toNat_of_nonneg h0] at h
  simp only [Bool.and_eq_true, beq_iff_eq] at h
  obtain ⟨⟨⟨⟨⟨a1, a2⟩, a3⟩, a4⟩, a5⟩, a6⟩ := h
  exact ⟨a1, a2, a3, a4, a5, a6⟩
theorem flags_big {n : Int} (h : 127 < n) (h2 : n ≤ 9223372036854775807) : fitsB n = false := by
  cases hf : fitsB n with
  | false => rfl
  | true =>
    exfalso
    unfold fitsB at hf
    have hb : IntKind.bits .i64 = 64 := rfl
    rw [decide_eq_true_eq] at hf
    have hx : (BitVec.ofInt (IntKind.bits .i64) n).toNat = n.toNat := by
      rw [BitVec.toNat_ofInt, hb]
      omega
    have hle : (BitVec.ofInt (IntKind.bits .i64) n &&& ~~~ (BitVec.ofInt (IntKind.bits .i64) 127)).toNat ≤ n.toNat := by
      rw [BitVec.toNat_and, hx]; exact Nat.and_le_left
    rw [wrap64 (by omega) (by omega)] at hf
    have hz : BitVec.ofInt (IntKind.bits .i64) n &&& ~~~ (BitVec.ofInt (IntKind.bits .i64) 127) = 0 := by
      apply BitVec.eq_of_toNat_eq
      simp only [BitVec.toNat_ofNat, BitVec.ofNat_eq_ofNat, Nat.zero_mod]
      omega
    have hx2 : BitVec.ofInt (IntKind.bits .i64) n = BitVec.ofInt (IntKind.bits .i64) n &&& BitVec.ofInt (IntKind.bits .i64) 127 := by
      apply BitVec.eq_of_getElem_eq
      intro i hi
      have := congrArg (fun v : BitVec (IntKind.bits .i64) => v[i]) hz
      simp only [BitVec.getElem_and, BitVec.getElem_not, BitVec.ofNat_eq_ofNat, BitVec.getElem_zero] at this ⊢
      cases h1 : (BitVec.ofInt (IntKind.bits .i64) n)[i] <;> cases h2 : (BitVec.ofInt (IntKind.bits .i64) 127)[i] <;> simp_all
    have := congrArg BitVec.toNat hx2
    rw [BitVec.toNat_and, hx] at this
    have h127 : (BitVec.ofInt (IntKind.bits .i64) 127).toNat = 127 := rfl
    rw [h127] at this
    have := Nat.and_le_right (n := n.toNat) (m := 127)
    omega
def forkC (p : api_Procs) (id n : Int) (x : api_Proc) : api_Proc :=
  api_Proc.mk p.Next id 1 x.User x.Name (if (flagB n 1 || flagB n 8) = true then p.Group else x.Ns) (if (flagB n 2 || flagB n 16) = true then (if (flagB n 1 || flagB n 8) = true then p.Group + 1 else p.Group) else x.Env)
    (if (flagB n 4 || flagB n 32) = true then (if (flagB n 2 || flagB n 16) = true then (if (flagB n 1 || flagB n 8) = true then p.Group + 1 else p.Group) + 1 else (if (flagB n 1 || flagB n 8) = true then p.Group + 1 else p.Group)) else x.Fds) x.Cwd [] [] [] (flagB n 64)
def forkG (p : api_Procs) (n : Int) : Int :=
  if (flagB n 4 || flagB n 32) = true then (if (flagB n 2 || flagB n 16) = true then (if (flagB n 1 || flagB n 8) = true then p.Group + 1 else p.Group) + 1 else (if (flagB n 1 || flagB n 8) = true then p.Group + 1 else p.Group)) + 1
  else (if (flagB n 2 || flagB n 16) = true then (if (flagB n 1 || flagB n 8) = true then p.Group + 1 else p.Group) + 1 else (if (flagB n 1 || flagB n 8) = true then p.Group + 1 else p.Group))
def forkFull (p : api_Procs) : Bool := decide (64 ≤ (List.length p.L : Int)) || (decide (1048575 < p.Next) || decide (1099511627774 < p.Group))
def forkS (p : api_Procs) (id n : Int) : api_Procs × Int × Int :=
  if (findP p.L id).2 = false then (p, 0, 42) else if (decide (n < 0) || (decide (127 < n) || contraB n)) = true then (p, 0, 1) else if forkFull p = true then (p, 0, 22)
  else (api_Procs.mk (p.Next + 1) (forkG p n) (p.L ++ [forkC p id n (findP p.L id).1]), p.Next, 0)
theorem Good.pos {p : api_Procs} (g : Good p) : 1 < p.Next := by
  obtain ⟨x, r, hl, h1, _⟩ := g.fst
  have := g.lst x (by rw [hl]; simp)
  omega
theorem proc_contradicts_eq (n : Int) : proc_contradicts n = some ([9, 18, 36].any fun q => pairB n q) := by
  unfold proc_contradicts
  have := loop_allF [(9 : Int), 18, 36] (fun q => !pairB n q) true false (fun s => proc_contradicts_L3 n s) (fun i hi => by
    unfold proc_contradicts_L3
    have hi3 : i < 3 := hi
    have h1 : (i : Int) < 3 := by omega
    simp only [decide_eq_true h1, if_true, lsAt_nat hi, Option.bind_some, wrapNat hi3 (by unfold maxLen; omega)]
    generalize [(9 : Int), 18, 36][i] = v
    unfold pairB
    split <;> simp_all) (by
    unfold proc_contradicts_L3
    simp)
  rw [this]
  rw [show ([(9 : Int), 18, 36].all fun q => !pairB n q) = !([9, 18, 36].any fun q => pairB n q) by rw [List.not_any_eq_all_not]]
  cases ([(9 : Int), 18, 36].any fun q => pairB n q) <;> rfl
theorem proc_Fork_eq {p : api_Procs} (h : Mod p) (g : Good p) (id n : Int) (hn64 : n ≤ 9223372036854775807) : proc_Fork p id n = some (forkS p id n) := by
  have hn := h.n
  have hg1 := g.g1
  have hg2 := g.g2
  have hnx := g.pos
  have hnx2 := g.nx
  have K7 : ∀ (a : List api_Proc) (x : api_Proc) (b : List api_Proc), p.L = a ++ x :: b → 0 ≤ n → n ≤ 127 → ∀ f, (f = false → p.L.length < 64 ∧ p.Next ≤ 1048575 ∧ p.Group ≤ 1099511627774) →
      proc_Fork_K7 id n p (a.length : Int) f = some (if f = true then (p, 0, 22) else (api_Procs.mk (p.Next + 1) (forkG p n) (p.L ++ [forkC p id n x]), p.Next, 0)) := by
    intro a x b hl h0 h1 f hf
    unfold proc_Fork_K7
    cases f with
    | true => rfl
    | false =>
      obtain ⟨f1, f2, f3⟩ := hf rfl
      obtain ⟨q1, q2, q3, q4, q5, q6⟩ := flags_at h0 h1
      have e1 : lsAt p.L (a.length : Int) = some x := by rw [hl]; exact lsAt_mid
      have c2 : ∀ z : api_Proc, appL 168 p.L [z] = some (p.L ++ [z]) := fun z => appL_small (by simp; omega) (by simp; omega)
      have q6' : (!decide ((IntKind.wrap .i64 ((BitVec.ofInt (IntKind.bits .i64) n &&& (BitVec.ofInt (IntKind.bits .i64) 64)).toNat : Nat)) = 0)) = flagB n 64 := q6
      simp only [Bool.false_eq_true, if_false, e1, Option.bind_some, q3, q4, q5, q6', c2]
      have w1 : IntKind.wrap .i64 (p.Next + 1) = p.Next + 1 := wrap64 (by omega) (by omega)
      have w2 : IntKind.wrap .i64 (p.Group + 1) = p.Group + 1 := wrap64 (by omega) (by omega)
      have w3 : IntKind.wrap .i64 (p.Group + 1 + 1) = p.Group + 1 + 1 := wrap64 (by omega) (by omega)
      have w4 : IntKind.wrap .i64 (p.Group + 1 + 1 + 1) = p.Group + 1 + 1 + 1 := wrap64 (by omega) (by omega)
      unfold forkC forkG
      cases (flagB n 1 || flagB n 8) <;> cases (flagB n 2 || flagB n 16) <;> cases (flagB n 4 || flagB n 32) <;> simp only [Bool.false_eq_true, if_false, if_true, w1, w2, w3, w4]
  unfold proc_Fork forkS
  rw [proc_own_eq h, Option.bind_some, proc_index_eq h, Option.bind_some]
  rcases at_cases p id with ⟨h1, h2⟩ | ⟨a, x, b, hl, hx, h1, h2⟩
  · rw [h1, h2]; rfl
  · rw [h1, h2]
    have hz : ¬ ((a.length : Int) < 0) := by omega
    have K4t : proc_Fork_K4 id n p (a.length : Int) true = some (p, 0, 1) := rfl
    simp only [decide_eq_false hz, Bool.false_eq_true, if_false, reduceCtorEq]
    by_cases a1 : n < 0
    · simp [a1, K4t]
    · by_cases a2 : 127 < n
      · have := flags_big a2 hn64
        unfold fitsB at this
        simp only [decide_eq_false a1, Bool.false_eq_true, if_false, this, Bool.not_false, if_true, K4t]
        simp [a2]
      · obtain ⟨q1, q2, _⟩ := flags_at (n := n) (by omega) (by omega)
        unfold fitsB at q1
        simp only [decide_eq_false a1, Bool.false_eq_true, if_false, q1, Bool.not_true, proc_contradicts_eq, q2, Option.bind_some, decide_eq_false a2, Bool.false_or]
        cases hcb : contraB n with
        | true => simp [K4t]
        | false =>
          simp only [Bool.false_eq_true, if_false]
          unfold proc_Fork_K4 forkFull
          simp only [Bool.false_eq_true, if_false]
          by_cases b1 : (64 : Int) ≤ (List.length p.L : Int)
          · rw [decide_eq_true b1, K7 a x b hl (by omega) (by omega) true (by simp)]; simp
          · by_cases b2 : (1048575 : Int) < p.Next
            · rw [decide_eq_false b1, decide_eq_true b2, K7 a x b hl (by omega) (by omega) true (by simp)]; simp
            · by_cases b3 : (1099511627774 : Int) < p.Group
              · rw [decide_eq_false b1, decide_eq_false b2, decide_eq_true b3, K7 a x b hl (by omega) (by omega) true (by simp)]; simp
              · rw [decide_eq_false b1, decide_eq_false b2, decide_eq_false b3, K7 a x b hl (by omega) (by omega) false (fun _ => by omega)]; simp
end Go.Proofs.YtfaobpifaobobaaDoor
