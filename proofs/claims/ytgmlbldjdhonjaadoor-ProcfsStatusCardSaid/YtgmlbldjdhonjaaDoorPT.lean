import Derived.Test.YtgmlbldjdhonjaaDoorPP
namespace Go.Proofs.YtgmlbldjdhonjaaDoor
open Go.Vm
set_option autoImplicit false
set_option linter.unusedVariables false
set_option linter.unusedSimpArgs false
set_option maxRecDepth 100000
def badU (z : Bool) (c : UInt8) : Bool := (!((decide (97 ≤ (c.toNat : Int))) && (decide ((c.toNat : Int) ≤ 122)))) && (z || (if (decide (48 ≤ (c.toNat : Int))) then ((!(decide ((c.toNat : Int) ≤ 57))) && ((!decide ((c.toNat : Int) = 45)) && (!decide ((c.toNat : Int) = 95)))) else ((!decide ((c.toNat : Int) = 45)) && (!decide ((c.toNat : Int) = 95)))))
def restU : Bool → Str → Bool
 | _, [] => true
 | z, c :: r => !badU z c && restU false r
def userV (s : Str) : Bool := !(decide ((List.length s : Int) < 1) || decide (32 < (List.length s : Int))) && restU true s
theorem badU_t (c : UInt8) : ((!((decide (97 ≤ (c.toNat : Int))) && (decide ((c.toNat : Int) ≤ 122)))) && (true || (!(if (decide (48 ≤ (c.toNat : Int))) then ((decide ((c.toNat : Int) ≤ 57)) || ((decide ((c.toNat : Int) = 45)) || (decide ((c.toNat : Int) = 95)))) else ((decide ((c.toNat : Int) = 45)) || (decide ((c.toNat : Int) = 95))))))) = badU true c := by
 simp [badU]
theorem badU_f (c : UInt8) : ((!((decide (97 ≤ (c.toNat : Int))) && (decide ((c.toNat : Int) ≤ 122)))) && (false || (!(if (decide (48 ≤ (c.toNat : Int))) then ((decide ((c.toNat : Int) ≤ 57)) || ((decide ((c.toNat : Int) = 45)) || (decide ((c.toNat : Int) = 95)))) else ((decide ((c.toNat : Int) = 45)) || (decide ((c.toNat : Int) = 95))))))) = badU false c := by
 unfold badU
 simp only [Bool.false_or]
 congr 1
 split <;> simp [Bool.not_or]
theorem restU_drop {s : Str} {i : Nat} (h : i < s.length) : restU (decide (i = 0)) (s.drop i) = (!badU (decide (i = 0)) s[i] && restU (decide (i + 1 = 0)) (s.drop (i + 1))) := by
 rw [List.drop_eq_getElem_cons h]
 simp [restU]
theorem userLoop {s : Str} (hm : s.length ≤ maxLen) (body : Int → Option (Step Int Bool)) (hb : ∀ (i : Nat) (h : i < s.length), body i = some (if badU (decide (i = 0)) s[i] = true then .done false else .cont ((i : Int) + 1)))
  (he : body s.length = some (.done true)) : loopM body 0 = some (restU true s) := by
 have := loopM_F (σ := Unit) s.length (fun _ i => i) body (fun i _ => restU (decide (i = 0)) (s.drop i)) (fun _ _ => True) (s0 := ()) trivial (fun u i hi _ => by
  have h := hb i hi
  rw [restU_drop hi]
  cases hp : badU (decide (i = 0)) s[i] with
  | true => right; rw [h, hp]; simp
  | false => left; exact ⟨(), by rw [h, hp]; rfl, by simp [hp], trivial⟩) (fun u _ => by rw [he, List.drop_length]; simp [restU])
 simpa using this
theorem i0 (i : Nat) : decide ((i : Int) = 0) = decide (i = 0) := by
 rw [Bool.eq_iff_iff]; simp
theorem user_Valid_eq {s : Str} (hm : s.length ≤ maxLen) : user_Valid s = some (userV s) := by
 unfold user_Valid userV
 have h0 : decide (s = []) = decide ((List.length s : Int) < 1) := by
  rw [Bool.eq_iff_iff]; simp
  constructor
  ·rintro rfl; simp
  ·intro h
   exact List.eq_nil_of_length_eq_zero (by omega)
 rw [h0]
 cases hc : (decide ((List.length s : Int) < 1) || decide (32 < (List.length s : Int))) with
 | true => simp
 | false =>
  simp only [Bool.false_eq_true, if_false, Bool.not_false, Bool.true_and]
  refine userLoop hm _ (fun i hi => ?_) ?_
  ·unfold user_Valid_L17
   have h1 : (i : Int) < (List.length s : Int) := by omega
   simp only [decide_eq_true h1, if_true, strAt_nat hi, Option.bind_some, wrapNat hi hm, i0]
   cases hz : decide (i = 0) with
   | true => rw [badU_t]; split <;> rfl
   | false => rw [badU_f]; split <;> rfl
  ·unfold user_Valid_L17
   simp
structure Mod (p : api_Procs) : Prop where
 n : p.L.length ≤ 100000
 e : ∀ x ∈ p.L, x.Notes.length ≤ 100000 ∧ x.Waits.length ≤ 100000 ∧ x.User.length ≤ 100000 ∧ x.Name.length ≤ 100000 ∧ x.Cwd.length ≤ 100000
theorem m5 : (100000 : Nat) ≤ maxLen := by unfold maxLen; omega
theorem proc_clone_eq {x : api_Proc} (h1 : x.Notes.length ≤ 100000) (h2 : x.Waits.length ≤ 100000) : proc_clone x = some x := by
 unfold proc_clone slices_Clone_string_string slices_Clone_api_Wait_api_Wait
 rw [appL_small (by simp; omega) (by simp; omega), appL_small (by simp; omega) (by simp; omega)]
 rfl
theorem proc_own_eq {p : api_Procs} (h : Mod p) : proc_own p = some p := by
 unfold proc_own
 have hn := h.n
 have hm := m5
 rw [mkC_same (by omega) (by omega), Option.bind_some]
 refine loop_copy p.L _ (fun s i => (i, s)) _ p (fun s i hi hs => ?_) ?_
 ·unfold proc_own_L8
  have h1 : (i : Int) < (List.length p.L : Int) := by omega
  have hx := h.e _ (List.getElem_mem hi)
  simp only [decide_eq_true h1, if_true, lsAt_nat hi, Option.bind_some, proc_clone_eq hx.1 hx.2.1, lsAt_nat (l := s) (i := i) (by omega), wrapNat hi (by omega), Int.toNat_natCast]
 ·unfold proc_own_L8
  simp
def ixP (l : List api_Proc) (id : Int) : Int := ixF (fun x => decide (x.Id = id)) l 0
theorem proc_index_eq {p : api_Procs} (h : Mod p) (id : Int) : proc_index p id = some (ixP p.L id) := by
 unfold proc_index slices_IndexFunc_api_Proc_api_Proc_f83
 have hm := m5
 have hn := h.n
 rw [bind_id]
 refine loop_ix p.L (fun x => decide (x.Id = id)) _ (fun i hi => ?_) ?_
 ·unfold slices_IndexFunc_api_Proc_api_Proc_f83_L6 proc_index_1
  have h1 : (i : Int) < (List.length p.L : Int) := by omega
  simp only [decide_eq_true h1, if_true, lsAt_nat hi, Option.bind_some, wrapNat hi (by omega)]
  split <;> rfl
 ·unfold slices_IndexFunc_api_Proc_api_Proc_f83_L6
  simp
theorem ixP_cases (l : List api_Proc) (id : Int) : ((∀ x ∈ l, x.Id ≠ id) ∧ ixP l id = -1) ∨ ∃ a x b, l = a ++ x :: b ∧ x.Id = id ∧ (∀ y ∈ a, y.Id ≠ id) ∧ ixP l id = (a.length : Int) := by
 rcases ixF_cases (fun x : api_Proc => decide (x.Id = id)) l 0 with ⟨h1, h2⟩ | ⟨a, x, b, h1, h2, h3, h4⟩
 ·exact .inl ⟨fun x hx => by simpa using h1 x hx, h2⟩
 ·exact .inr ⟨a, x, b, h1, by simpa using h2, fun y hy => by simpa using h3 y hy, by simpa [ixP] using h4⟩
abbrev noP : api_Proc := api_Proc.mk 0 0 0 [] [] 0 0 0 [] ([] : List Str) [] ([] : List api_Wait) false
def findP (l : List api_Proc) (id : Int) : api_Proc × Bool := match l.find? (fun x => decide (x.Id = id)) with
 | some x => (x, true)
 | none => (noP, false)
theorem findP_none {l : List api_Proc} {id : Int} (h : ∀ x ∈ l, x.Id ≠ id) : findP l id = (noP, false) := by
 unfold findP
 rw [List.find?_eq_none.2 (fun x hx => by simpa using h x hx)]
theorem findP_some {a b : List api_Proc} {x : api_Proc} {id : Int} (hx : x.Id = id) (h : ∀ y ∈ a, y.Id ≠ id) : findP (a ++ x :: b) id = (x, true) := by
 unfold findP
 have : (a ++ x :: b).find? (fun x => decide (x.Id = id)) = some x := by
  rw [List.find?_append, List.find?_eq_none.2 (fun y hy => by simpa using h y hy)]
  simp [hx]
 rw [this]
theorem proc_Find_eq {p : api_Procs} (h : Mod p) (id : Int) : proc_Find p id = some (findP p.L id) := by
 unfold proc_Find
 rw [proc_index_eq h, Option.bind_some]
 rcases ixP_cases p.L id with ⟨h1, h2⟩ | ⟨a, x, b, h1, h2, h3, h4⟩
 ·rw [h2, findP_none h1]; rfl
 ·have hx := h.e x (by rw [h1]; simp)
  rw [h4, h1, findP_some h2 h3, if_neg (by simp), lsAt_mid, Option.bind_some, proc_clone_eq hx.1 hx.2.1]; rfl
def rootC (s : Str) : Bool := decide ((cleanP s).2 = 0) && (decide ((cleanP s).1 = s) && rootedB s)
def grpB (p : api_Procs) (n : Int) : Bool := decide (1 ≤ n) && decide (n < p.Group)
def waitB (nx : Int) (w : api_Wait) : Bool := decide (1 ≤ w.Id) && (decide (w.Id < nx) && decide ((List.length w.Status : Int) ≤ 1024))
def shortB (s : Str) : Bool := decide ((List.length s : Int) ≤ 1024)
def stateB (n : Int) : Bool := decide (n = 1) || (decide (n = 2) || decide (n = 3))
def fieldsB (p : api_Procs) (x : api_Proc) : Bool :=
 stateB x.State && userV x.User && (decide (x.Name = []) || validN x.Name) && rootC x.Cwd && decide (x.Status = []) && (grpB p x.Ns && (grpB p x.Env && grpB p x.Fds)) &&
  (decide ((List.length x.Notes : Int) ≤ 8) && decide ((List.length x.Waits : Int) ≤ 64)) && x.Notes.all shortB && x.Waits.all (waitB p.Next)
end Go.Proofs.YtgmlbldjdhonjaaDoor
