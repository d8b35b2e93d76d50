import Derived.Test.YtgmlbldjdhonjaaGreatDoorPP
namespace Go.Proofs.YtgmlbldjdhonjaaGreatDoor
open Go.Vm
set_option autoImplicit false
set_option linter.unusedVariables false
set_option linter.unusedSimpArgs false
set_option maxRecDepth 100000
def badU (z : Bool) (c : UInt8) : Bool := (!((decide (97 ≤ (c.toNat : Int))) && (decide ((c.toNat : Int) ≤ 122)))) && (z || (bif (decide (48 ≤ (c.toNat : Int))) then ((!(decide ((c.toNat : Int) ≤ 57))) && ((!decide ((c.toNat : Int) = 45)) && (!decide ((c.toNat : Int) = 95)))) else ((!decide ((c.toNat : Int) = 45)) && (!decide ((c.toNat : Int) = 95)))))
def restU : Bool → Str → Bool
 | _, [] => true
 | z, c :: r => !badU z c && restU false r
def userV (s : Str) : Bool := !(decide ((List.length s : Int) < 1) || decide (32 < (List.length s : Int))) && restU true s
theorem badU_t (c : UInt8) : ((!((decide (97 ≤ (c.toNat : Int))) && (decide ((c.toNat : Int) ≤ 122)))) && (true || (!(bif (decide (48 ≤ (c.toNat : Int))) then ((decide ((c.toNat : Int) ≤ 57)) || ((decide ((c.toNat : Int) = 45)) || (decide ((c.toNat : Int) = 95)))) else ((decide ((c.toNat : Int) = 45)) || (decide ((c.toNat : Int) = 95))))))) = badU true c := by
 simp [badU]
theorem badU_f (c : UInt8) : ((!((decide (97 ≤ (c.toNat : Int))) && (decide ((c.toNat : Int) ≤ 122)))) && (false || (!(bif (decide (48 ≤ (c.toNat : Int))) then ((decide ((c.toNat : Int) ≤ 57)) || ((decide ((c.toNat : Int) = 45)) || (decide ((c.toNat : Int) = 95)))) else ((decide ((c.toNat : Int) = 45)) || (decide ((c.toNat : Int) = 95))))))) = badU false c := by
 unfold badU
 simp only [Bool.false_or]
 congr 1
 cases decide (48 ≤ (c.toNat : Int)) <;> simp [Bool.not_or]
theorem restU_drop {s : Str} {i : Nat} (h : i < s.length) : restU (decide (i = 0)) (s.drop i) = (!badU (decide (i = 0)) s[i] && restU (decide (i + 1 = 0)) (s.drop (i + 1))) := by
 rw [List.drop_eq_getElem_cons h]
 simp [restU]
theorem userLoop {s : Str} (hm : s.length ≤ maxLen) (body : Int → Option (Step Int Bool)) (hb : ∀ (i : Nat) (h : i < s.length), body i = some (if badU (decide (i = 0)) s[i] = true then .done false else .cont ((i : Int) + 1)))
  (he : body s.length = some (.done true)) : loopM body 0 = some (restU true s) := by
 have := loopM_F (σ := Unit) s.length (fun _ i => i) body (fun i _ => restU (decide (i = 0)) (s.drop i)) (fun _ _ => True) (s0 := ()) trivial (fun u i hi _ => by
  have h := hb i hi
  rw [restU_drop hi]
  cases hp : badU (decide (i = 0)) s[i] with
  | true => right; rw [h, hp]; simp
  | false => left; exact ⟨(), by rw [h, hp]; rfl, by simp [hp], trivial⟩) (fun u _ => by rw [he, List.drop_length]; simp [restU])
 simpa using this
theorem i0 (i : Nat) : decide ((i : Int) = 0) = decide (i = 0) := by
 rw [Bool.eq_iff_iff]; simp
theorem user_Valid_eq {s : Str} (hm : s.length ≤ maxLen) : user_Valid s = some (userV s) := by
 unfold user_Valid userV
 have h0 : decide (s = []) = decide ((List.length s : Int) < 1) := by
  rw [Bool.eq_iff_iff]; simp
  constructor
  ·rintro rfl; simp
  ·intro h
   exact List.eq_nil_of_length_eq_zero (by omega)
 rw [h0]
 cases hc : (decide ((List.length s : Int) < 1) || decide (32 < (List.length s : Int))) with
 | true => simp
 | false =>
  simp only [Bool.false_eq_true, if_false, Bool.not_false, Bool.true_and]
  refine userLoop hm _ (fun i hi => ?_) ?_
  ·unfold user_Valid_L17
   have h1 : (i : Int) < (List.length s : Int) := by omega
   simp only [decide_eq_true h1, if_true, strAt_nat hi, Option.bind_some, wrapNat hi hm, i0]
   cases hz : decide (i = 0) with
   | true => rw [badU_t]; split <;> rfl
   | false => rw [badU_f]; split <;> rfl
  ·unfold user_Valid_L17
   simp
theorem ref05_Valid_eq {s : Str} (hm : s.length ≤ maxLen) : ref05_Valid s = some (userV s) := by
 unfold ref05_Valid userV
 cases hc : (decide ((List.length s : Int) < 1) || decide (32 < (List.length s : Int))) with
 | true => simp
 | false =>
  simp only [Bool.false_eq_true, if_false, Bool.not_false, Bool.true_and]
  refine userLoop hm _ (fun i hi => ?_) ?_
  ·unfold ref05_Valid_L12
   have h1 : (i : Int) < (List.length s : Int) := by omega
   simp only [decide_eq_true h1, if_true, strAt_nat hi, Option.bind_some, wrapNat hi hm, i0]
   unfold badU
   exact some_ite
  ·unfold ref05_Valid_L12
   simp
structure Mod (p : api_Procs) : Prop where
 n : p.L.length ≤ 100000
 e : ∀ x ∈ p.L, x.Notes.length ≤ 100000 ∧ x.Waits.length ≤ 100000 ∧ x.User.length ≤ 100000 ∧ x.Name.length ≤ 100000 ∧ x.Cwd.length ≤ 100000
theorem m5 : (100000 : Nat) ≤ maxLen := by unfold maxLen; omega
theorem proc_clone_eq {x : api_Proc} (h1 : x.Notes.length ≤ 100000) (h2 : x.Waits.length ≤ 100000) : proc_clone x = some x := by
 unfold proc_clone slices_Clone_string_string slices_Clone_api_Wait_api_Wait
 rw [appL_small (by simp; omega) (by simp; omega), appL_small (by simp; omega) (by simp; omega)]
 rfl
theorem proc_own_eq {p : api_Procs} (h : Mod p) : proc_own p = some p := by
 unfold proc_own
 have hn := h.n
 have hm := m5
 rw [mkC_same (by omega) (by omega), Option.bind_some]
 refine loop_copy p.L _ (fun s i => (i, s)) _ p (fun s i hi hs => ?_) ?_
 ·unfold proc_own_L8
  have h1 : (i : Int) < (List.length p.L : Int) := by omega
  have hx := h.e _ (List.getElem_mem hi)
  simp only [decide_eq_true h1, if_true, lsAt_nat hi, Option.bind_some, proc_clone_eq hx.1 hx.2.1, lsAt_nat (l := s) (i := i) (by omega), wrapNat hi (by omega), Int.toNat_natCast]
 ·unfold proc_own_L8
  simp
def ixP (l : List api_Proc) (id : Int) : Int := ixF (fun x => decide (x.Id = id)) l 0
theorem proc_index_eq {p : api_Procs} (h : Mod p) (id : Int) : proc_index p id = some (ixP p.L id) := by
 unfold proc_index slices_IndexFunc_api_Proc_api_Proc_f86
 have hm := m5
 have hn := h.n
 rw [bind_id]
 refine loop_ix p.L (fun x => decide (x.Id = id)) _ (fun i hi => ?_) ?_
 ·unfold slices_IndexFunc_api_Proc_api_Proc_f86_L6 proc_index_1
  have h1 : (i : Int) < (List.length p.L : Int) := by omega
  simp only [decide_eq_true h1, if_true, lsAt_nat hi, Option.bind_some, wrapNat hi (by omega)]
  split <;> rfl
 ·unfold slices_IndexFunc_api_Proc_api_Proc_f86_L6
  simp
theorem ref30_index_eq {p : api_Procs} (h : Mod p) (id : Int) : ref30_index p id = some (ixP p.L id) := by
 unfold ref30_index
 have hm := m5
 have hn := h.n
 refine loop_ix p.L (fun x => decide (x.Id = id)) _ (fun i hi => ?_) ?_
 ·unfold ref30_index_L5
  have h1 : (i : Int) < (List.length p.L : Int) := by omega
  simp only [decide_eq_true h1, if_true, lsAt_nat hi, Option.bind_some, wrapNat hi (by omega)]
  split <;> rfl
 ·unfold ref30_index_L5
  simp
theorem ixP_cases (l : List api_Proc) (id : Int) : ((∀ x ∈ l, x.Id ≠ id) ∧ ixP l id = -1) ∨ ∃ a x b, l = a ++ x :: b ∧ x.Id = id ∧ (∀ y ∈ a, y.Id ≠ id) ∧ ixP l id = (a.length : Int) := by
 rcases ixF_cases (fun x : api_Proc => decide (x.Id = id)) l 0 with ⟨h1, h2⟩ | ⟨a, x, b, h1, h2, h3, h4⟩
 ·exact .inl ⟨fun x hx => by simpa using h1 x hx, h2⟩
 ·exact .inr ⟨a, x, b, h1, by simpa using h2, fun y hy => by simpa using h3 y hy, by simpa [ixP] using h4⟩
abbrev noP : api_Proc := api_Proc.mk 0 0 0 [] [] 0 0 0 [] ([] : List Str) [] ([] : List api_Wait) false
def findP (l : List api_Proc) (id : Int) : api_Proc × Bool := match l.find? (fun x => decide (x.Id = id)) with
 | some x => (x, true)
 | none => (noP, false)
theorem findP_none {l : List api_Proc} {id : Int} (h : ∀ x ∈ l, x.Id ≠ id) : findP l id = (noP, false) := by
 unfold findP
 rw [List.find?_eq_none.2 (fun x hx => by simpa using h x hx)]
theorem findP_some {a b : List api_Proc} {x : api_Proc} {id : Int} (hx : x.Id = id) (h : ∀ y ∈ a, y.Id ≠ id) : findP (a ++ x :: b) id = (x, true) := by
 unfold findP
 have : (a ++ x :: b).find? (fun x => decide (x.Id = id)) = some x := by
  rw [List.find?_append, List.find?_eq_none.2 (fun y hy => by simpa using h y hy)]
  simp [hx]
 rw [this]
theorem proc_Find_eq {p : api_Procs} (h : Mod p) (id : Int) : proc_Find p id = some (findP p.L id) := by
 unfold proc_Find
 rw [proc_index_eq h, Option.bind_some]
 rcases ixP_cases p.L id with ⟨h1, h2⟩ | ⟨a, x, b, h1, h2, h3, h4⟩
 ·rw [h2, findP_none h1]; rfl
 ·have hx := h.e x (by rw [h1]; simp)
  rw [h4, h1, findP_some h2 h3, if_neg (by simp), lsAt_mid, Option.bind_some, proc_clone_eq hx.1 hx.2.1]; rfl
theorem ref30_Find_eq {p : api_Procs} (h : Mod p) (id : Int) : ref30_Find p id = some (findP p.L id) := by
 unfold ref30_Find
 rw [ref30_index_eq h, Option.bind_some]
 rcases ixP_cases p.L id with ⟨h1, h2⟩ | ⟨a, x, b, h1, h2, h3, h4⟩
 ·rw [h2, findP_none h1]; rfl
 ·rw [h4, h1, findP_some h2 h3, if_neg (by simp), lsAt_mid]; rfl
def rootC (s : Str) : Bool := decide ((cleanP s).2 = 0) && (decide ((cleanP s).1 = s) && rootedB s)
def grpB (p : api_Procs) (n : Int) : Bool := decide (1 ≤ n) && decide (n < p.Group)
def waitB (nx : Int) (w : api_Wait) : Bool := decide (1 ≤ w.Id) && (decide (w.Id < nx) && decide ((List.length w.Status : Int) ≤ 1024))
def shortB (s : Str) : Bool := decide ((List.length s : Int) ≤ 1024)
def stateB (n : Int) : Bool := decide (n = 1) || (decide (n = 2) || decide (n = 3))
def fieldsB (p : api_Procs) (x : api_Proc) : Bool :=
 stateB x.State && userV x.User && (decide (x.Name = []) || validN x.Name) && rootC x.Cwd && decide (x.Status = []) && (grpB p x.Ns && (grpB p x.Env && grpB p x.Fds)) &&
  (decide ((List.length x.Notes : Int) ≤ 8) && decide ((List.length x.Waits : Int) ≤ 64)) && x.Notes.all shortB && x.Waits.all (waitB p.Next)
theorem proc_rooted_eq (s : Str) : proc_rooted s = some (rootC s) := by
 unfold proc_rooted rootC
 rw [path_Clean_all, Option.bind_some]
 by_cases h0 : (cleanP s).2 = 0
 ·by_cases h1 : (cleanP s).1 = s
  ·cases s with
   | nil => simp [h0, h1, rootedB]
   | cons c r =>
    have : strAt (c :: r) 0 = some c := by have := strAt_nat (l := c :: r) (i := 0) (by simp); simpa using this
    simp only [h0, h1, this]
    have h47 := toNat47 c
    by_cases hc : c = 47
    ·subst hc; simp [rootedB]
    ·simp [rootedB, hc]
     have : decide ((c.toNat : Int) = 47) = false := by rw [h47]; simp [hc]
     simpa using this
  ·simp [h0, h1]
 ·simp [h0]
theorem proc_fields_eq {p : api_Procs} {x : api_Proc} (h : Mod p) (hx : x ∈ p.L) : proc_fields p x = some (fieldsB p x) := by
 obtain ⟨e1, e2, e3, e4, e5⟩ := h.e x hx
 have hm := m5
 have lw : loopM (fun s => proc_fields_L45 p x s) 0 = some (x.Waits.all (waitB p.Next)) := by
  refine loop_all x.Waits _ _ (fun i hi => ?_) ?_
  ·unfold proc_fields_L45 proc_short
   have h1 : (i : Int) < (List.length x.Waits : Int) := by omega
   simp only [decide_eq_true h1, if_true, lsAt_nat hi, Option.bind_some, wrapNat hi (by omega)]
   unfold waitB
   by_cases a1 : x.Waits[i].Id < 1
   ·simp [a1] <;> omega
   ·by_cases a2 : p.Next ≤ x.Waits[i].Id
    ·simp [a1, a2] <;> omega
    ·have b1 : 1 ≤ x.Waits[i].Id := by omega
     have b2 : x.Waits[i].Id < p.Next := by omega
     simp only [decide_eq_false a1, decide_eq_false a2, decide_eq_true b1, decide_eq_true b2, Bool.false_eq_true, if_false, Option.bind_some, Bool.true_and]
     cases decide ((List.length x.Waits[i].Status : Int) ≤ 1024) <;> rfl
  ·unfold proc_fields_L45
   simp
 have ln : loopM (fun s => proc_fields_L32 p x s) 0 = some (if x.Notes.all shortB = true then x.Waits.all (waitB p.Next) else false) := by
  refine loop_allF x.Notes shortB _ _ _ (fun i hi => ?_) ?_
  ·unfold proc_fields_L32 proc_short
   have h1 : (i : Int) < (List.length x.Notes : Int) := by omega
   simp only [decide_eq_true h1, if_true, lsAt_nat hi, Option.bind_some, wrapNat hi (by omega)]
   unfold shortB
   cases decide ((List.length x.Notes[i] : Int) ≤ 1024) <;> rfl
  ·unfold proc_fields_L32
   rw [lw]; simp
 have la : proc_fields_A53 p x = some (decide ((List.length x.Notes : Int) ≤ 8) && decide ((List.length x.Waits : Int) ≤ 64) && (x.Notes.all shortB && x.Waits.all (waitB p.Next))) := by
  unfold proc_fields_A53
  rw [ln]
  by_cases a1 : (8 : Int) < (List.length x.Notes : Int)
  ·simp [a1] <;> omega
  ·by_cases a2 : (64 : Int) < (List.length x.Waits : Int)
   ·simp [a1, a2] <;> omega
   ·have b1 : (List.length x.Notes : Int) ≤ 8 := by omega
    have b2 : (List.length x.Waits : Int) ≤ 64 := by omega
    simp only [decide_eq_false a1, decide_eq_false a2, decide_eq_true b1, decide_eq_true b2, Bool.or_false, Bool.false_eq_true, if_false, Bool.true_and]
    cases x.Notes.all shortB <;> simp
 have lg : loopM (fun s => proc_fields_L18 p x s) 0 = some (if [x.Ns, x.Env, x.Fds].all (grpB p) = true then (decide ((List.length x.Notes : Int) ≤ 8) && decide ((List.length x.Waits : Int) ≤ 64) && (x.Notes.all shortB && x.Waits.all (waitB p.Next))) else false) := by
  refine loop_allF [x.Ns, x.Env, x.Fds] (grpB p) _ _ _ (fun i hi => ?_) ?_
  ·unfold proc_fields_L18
   have hi3 : i < 3 := hi
   have h1 : (i : Int) < 3 := by omega
   simp only [decide_eq_true h1, if_true, lsAt_nat hi, Option.bind_some, wrapNat hi3 (by unfold maxLen; omega)]
   generalize [x.Ns, x.Env, x.Fds][i] = v
   unfold grpB
   by_cases a1 : v < 1
   ·simp [a1] <;> omega
   ·by_cases a2 : p.Group ≤ v
    ·simp [a1, a2] <;> omega
    ·have b1 : 1 ≤ v := by omega
     have b2 : v < p.Group := by omega
     simp [a1, a2, b1, b2]
  ·unfold proc_fields_L18
   rw [la]; simp
 unfold proc_fields proc_state
 rw [lg, Option.bind_some, user_Valid_eq (by omega), path_Valid_eq, proc_rooted_eq]
 unfold fieldsB
 simp only [List.all_cons, List.all_nil, Bool.and_true]
 unfold stateB
 generalize (decide (x.State = 1) || (decide (x.State = 2) || decide (x.State = 3))) = b1
 generalize userV x.User = b2
 generalize rootC x.Cwd = b4
 generalize (grpB p x.Ns && (grpB p x.Env && grpB p x.Fds)) = b6
 generalize (decide ((List.length x.Notes : Int) ≤ 8) && decide ((List.length x.Waits : Int) ≤ 64)) = b7
 generalize x.Notes.all shortB = b8
 generalize x.Waits.all (waitB p.Next) = b9
 generalize validN x.Name = b3
 cases b1 <;> cases b2 <;> cases hn : decide (x.Name = []) <;> cases b3 <;> cases b4 <;> cases hs : decide (x.Status = []) <;> cases b6 <;> simp [Bool.and_assoc]
theorem ref30_fields_eq {p : api_Procs} {x : api_Proc} (h : Mod p) (hx : x ∈ p.L) : ref30_fields p x = some (fieldsB p x) := by
 obtain ⟨e1, e2, e3, e4, e5⟩ := h.e x hx
 have hm := m5
 have lw : loopM (fun s => ref30_fields_L49 p x s) 0 = some (x.Waits.all (waitB p.Next)) := by
  refine loop_all x.Waits _ _ (fun i hi => ?_) ?_
  ·unfold ref30_fields_L49
   have h1 : (i : Int) < (List.length x.Waits : Int) := by omega
   simp only [decide_eq_true h1, if_true, lsAt_nat hi, Option.bind_some, wrapNat hi (by omega)]
   unfold waitB
   by_cases a1 : x.Waits[i].Id < 1
   ·simp [a1] <;> omega
   ·by_cases a2 : p.Next ≤ x.Waits[i].Id
    ·simp [a1, a2] <;> omega
    ·have b1 : 1 ≤ x.Waits[i].Id := by omega
     have b2 : x.Waits[i].Id < p.Next := by omega
     by_cases a3 : (1024 : Int) < (List.length x.Waits[i].Status : Int)
     ·have b3 : ¬ (List.length x.Waits[i].Status : Int) ≤ 1024 := by omega
      simp [a1, a2, a3, b1, b2] <;> omega
     ·have b3 : (List.length x.Waits[i].Status : Int) ≤ 1024 := by omega
      simp [a1, a2, a3, b1, b2, b3]
  ·unfold ref30_fields_L49
   simp
 have ln : loopM (fun s => ref30_fields_L36 p x s) 0 = some (if x.Notes.all shortB = true then x.Waits.all (waitB p.Next) else false) := by
  refine loop_allF x.Notes shortB _ _ _ (fun i hi => ?_) ?_
  ·unfold ref30_fields_L36
   have h1 : (i : Int) < (List.length x.Notes : Int) := by omega
   simp only [decide_eq_true h1, if_true, lsAt_nat hi, Option.bind_some, wrapNat hi (by omega)]
   unfold shortB
   by_cases a3 : (1024 : Int) < (List.length x.Notes[i] : Int)
   ·simp [a3] <;> omega
   ·have b3 : (List.length x.Notes[i] : Int) ≤ 1024 := by omega
    simp [a3, b3]
  ·unfold ref30_fields_L36
   rw [lw]; simp
 unfold ref30_fields ref30_group
 rw [ln, ref05_Valid_eq (by omega), ref03_Valid_eq (by omega), ref03_Clean_all]
 simp only [Option.bind_some, ref03_Rooted_eq]
 unfold fieldsB stateB rootC grpB
 have n1 : decide ((List.length x.Notes : Int) ≤ 8) = !decide (8 < (List.length x.Notes : Int)) := by rw [Bool.eq_iff_iff]; simp
 have n2 : decide ((List.length x.Waits : Int) ≤ 64) = !decide (64 < (List.length x.Waits : Int)) := by rw [Bool.eq_iff_iff]; simp
 rw [n1, n2]
 by_cases hcw : (cleanP x.Cwd).1 = x.Cwd
 ·rw [hcw]
  generalize decide (x.State = 1) = s1
  generalize decide (x.State = 2) = s2
  generalize decide (x.State = 3) = s3
  generalize userV x.User = b2
  generalize rootedB x.Cwd = b4
  generalize decide ((cleanP x.Cwd).2 = 0) = b5
  generalize (decide (1 ≤ x.Ns) && decide (x.Ns < p.Group)) = g1
  generalize (decide (1 ≤ x.Env) && decide (x.Env < p.Group)) = g2
  generalize (decide (1 ≤ x.Fds) && decide (x.Fds < p.Group)) = g3
  generalize decide ((8 : Int) < (List.length x.Notes : Int)) = c1
  generalize decide ((64 : Int) < (List.length x.Waits : Int)) = c2
  generalize x.Notes.all shortB = b8
  generalize x.Waits.all (waitB p.Next) = b9
  generalize validN x.Name = b3
  cases s1 <;> cases s2 <;> cases s3 <;> (try simp) <;> cases b2 <;> (try simp) <;> cases hn : decide (x.Name = []) <;> (try simp_all) <;> cases b3 <;> (try simp) <;> cases g1 <;> (try simp) <;> cases g2 <;> (try simp) <;> cases g3 <;> (try simp) <;> cases hs : decide (x.Status = []) <;> (try simp_all) <;> cases b5 <;> (try simp) <;> cases b4 <;> (try simp) <;> cases c1 <;> (try simp) <;> cases c2 <;> (try simp) <;> cases b8 <;> simp
 ·generalize userV x.User = b2
  generalize decide ((cleanP x.Cwd).2 = 0) = b5
  generalize validN x.Name = b3
  simp only [hcw, decide_false, Bool.not_false, if_true, Bool.false_and, Bool.and_false]
  repeat' split
  all_goals simp_all
end Go.Proofs.YtgmlbldjdhonjaaGreatDoor
