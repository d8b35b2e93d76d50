import Derived.Test.YtgmlbldjdhonjaaGreatDoorQB
namespace Go.Proofs.YtgmlbldjdhonjaaGreatDoor
open Go.Vm
set_option autoImplicit false
set_option linter.unusedVariables false
set_option linter.unusedSimpArgs false
set_option maxRecDepth 100000
def gr (a g : Int) : Bool := !decide ((IntKind.wrap .i64 ((BitVec.ofInt (IntKind.bits .i64) a &&& ~~~ (BitVec.ofInt (IntKind.bits .i64) g)).toNat : Nat)) = 0)
theorem ref31_directory_eq (id : Int) : ref31_directory id = some (decide (id = 1) || (decide (16 ≤ id) && decide (Int.tmod id 16 = 0))) := rfl
theorem loop_find {α ρ : Type} (l : List α) (pr : α → Bool) (f : α → ρ) (bad : ρ) (body : Int → Option (Step Int ρ)) (hb : ∀ (i : Nat) (h : i < l.length), body i = some (if pr l[i] = true then .done (f l[i]) else .cont ((i : Int) + 1)))
  (he : body l.length = some (.done bad)) : loopM body 0 = some (((l.find? pr).map f).getD bad) := by
 have := loopM_F (σ := Unit) l.length (fun _ i => i) body (fun i _ => (((l.drop i).find? pr).map f).getD bad) (fun _ _ => True) (s0 := ()) trivial (fun s i hi _ => by
  have h := hb i hi
  cases hp : pr l[i] with
  | true => right; rw [h, hp, List.drop_eq_getElem_cons hi, List.find?_cons, hp]; rfl
  | false => left; exact ⟨(), by rw [h, hp]; rfl, by rw [List.drop_eq_getElem_cons hi, List.find?_cons, hp], trivial⟩) (fun s _ => by rw [he, List.drop_length]; rfl)
 simpa using this
def five : List Int := [1, 2, 3, 4, 5]
theorem five_at {i : Nat} (h : i < five.length) : five[i] = (i : Int) + 1 := by
 have h' : i < 5 := h
 rcases (by omega : i = 0 ∨ i = 1 ∨ i = 2 ∨ i = 3 ∨ i = 4) with rfl | rfl | rfl | rfl | rfl <;> rfl
def childS (p : api_Procs) (id : Int) : List Int := if id = 1 then p.L.map (fun x => 16 * x.Id) else five.map (fun k => id + k)
theorem Good.idR {p : api_Procs} (g : Good p) {x : api_Proc} (hx : x ∈ p.L) : 1 ≤ x.Id ∧ x.Id ≤ 1048576 := by
 have h1 := g.ge1 hx
 have h2 := g.lst x hx
 have h3 := g.nx
 omega
theorem procfs_children_eq {p : api_Procs} (g : Good p) {id : Int} (h0 : 0 ≤ id) (h1 : id ≤ 9223372036854775000) : procfs_children p id = some (childS p id) := by
 have hn := g.n2
 unfold procfs_children childS
 by_cases hi : id = 1
 ·simp only [hi, decide_true, Bool.not_true, Bool.false_eq_true, if_false, if_true]
  refine loop_map p.L (fun x => 16 * x.Id) (fun s i => (i, s)) (fun s => procfs_children_L13 p s.1 s.2) _ (fun s i hi hs => ?_) ?_
  ·show procfs_children_L13 p (i : Int) s = _
   unfold procfs_children_L13
   have hx := g.idR (List.getElem_mem hi)
   have h1 : (i : Int) < (List.length p.L : Int) := by omega
   simp only [decide_eq_true h1, if_true, lsAt_nat hi, Option.bind_some, wrapNat hi (by unfold maxLen; omega)]
   rw [wrap64 (by omega) (by omega), appL_small (by simp; omega) (by simp; omega), Option.bind_some]
  ·show procfs_children_L13 p (p.L.length : Int) _ = _
   unfold procfs_children_L13
   simp
 ·simp only [decide_eq_false hi, Bool.not_false, if_true, if_neg hi]
  refine loop_map five (fun k => id + k) (fun s i => (i + 1, s)) (fun s => procfs_children_L5 id s.1 s.2) _ (fun s i hi hs => ?_) ?_
  ·have hi5 : i < 5 := hi
   show procfs_children_L5 id ((i : Int) + 1) s = _
   unfold procfs_children_L5
   have h1 : (i : Int) + 1 ≤ 5 := by omega
   simp only [decide_eq_true h1, if_true, five_at hi]
   rw [wrap64 (n := id + ((i : Int) + 1)) (by omega) (by omega), appL_small (by simp; omega) (by simp; omega), Option.bind_some, wrap64 (by omega) (by omega)]
  ·show procfs_children_L5 id 6 _ = _
   unfold procfs_children_L5
   simp
theorem Good.small {p : api_Procs} (g : Good p) {id : Int} (h : (fileS p id).2.2 = true) : 0 ≤ id ∧ id ≤ 16777221 := by
 rcases file_cases (p := p) (id := id) with hfi | ⟨rfl, hfi⟩ | ⟨h16, hn1, x, k, hx, hf, hk, hk0, hk5, _, hid, hfi⟩
 ·rw [hfi] at h; cases h
 ·omega
 ·have := g.idR hx; omega
def walkS (p : api_Procs) (id : Int) (s : Str) : Int × Int :=
 if (fileS p id).2.2 = false then (0, 8) else if (fileS p id).2.1 ≠ 0 then (0, 9) else if s = [46, 46] then (1, 0)
 else (((childS p id).find? fun c => decide (nameS c = s)).map fun c => (c, 0)).getD (0, 8)
theorem child_mem {p : api_Procs} (g : Good p) {id c : Int} (h0 : 0 ≤ id) (h1 : id ≤ 16777221) (hc : c ∈ childS p id) : 0 ≤ c ∧ c ≤ 16777300 := by
 unfold childS at hc
 split at hc
 ·obtain ⟨x, hx, rfl⟩ := List.mem_map.1 hc
  have := g.idR hx; omega
 ·obtain ⟨k, hk, rfl⟩ := List.mem_map.1 hc
  unfold five at hk
  simp only [List.mem_cons, List.not_mem_nil, or_false] at hk
  omega
theorem child_len {p : api_Procs} (g : Good p) (id : Int) : (childS p id).length ≤ 64 := by
 have := g.n2
 unfold childS five
 split
 ·simpa using this
 ·simp
theorem procfs_Walk_eq {p : api_Procs} (g : Good p) {id : Int} (h0 : -9223372036854775808 ≤ id) (h1 : id ≤ 9223372036854775807) (s : Str) : procfs_Walk p id s = some (walkS p id s) := by
 have h := g.mod
 unfold procfs_Walk walkS
 rw [procfs_file_eq h h0 h1, Option.bind_some]
 cases hfi : (fileS p id).2.2 with
 | false => simp
 | true =>
  have hsm := g.small hfi
  by_cases a0 : (fileS p id).2.1 = 0
  ·by_cases hs : s = [46, 46]
   ·simp [a0, hs]
   ·have hcl := child_len g id
    simp only [a0, decide_true, Bool.not_true, Bool.false_eq_true, if_false, decide_eq_false hs, procfs_children_eq g hsm.1 (by omega), Option.bind_some, hs, ne_eq, not_true_eq_false, reduceCtorEq]
    refine loop_find (childS p id) (fun c => decide (nameS c = s)) (fun c => (c, (0 : Int))) (0, 8) _ (fun i hi => ?_) ?_
    ·unfold procfs_Walk_L11
     have hm := child_mem g hsm.1 hsm.2 (List.getElem_mem hi)
     have hlt : (i : Int) < (List.length (childS p id) : Int) := by omega
     simp only [decide_eq_true hlt, if_true, lsAt_nat hi, Option.bind_some, procfs_name_eq (id := (childS p id)[i]) (by omega) (by omega), wrapNat hi (by unfold maxLen; omega)]
     split <;> rfl
    ·unfold procfs_Walk_L11
     simp
  ·simp [a0]
theorem nameS_proc {n : Int} (h : 1 ≤ n) : nameS (16 * n) = Go.Lib.itoa n := by
 have e2 : Int.tmod (16 * n) 16 = 0 := by rw [Int.tmod_eq_emod_of_nonneg (by omega)]; omega
 have e3 : Int.tdiv (16 * n) 16 = n := by rw [Int.tdiv_eq_ediv_of_nonneg (by omega)]; omega
 unfold nameS
 rw [e2, e3, if_neg (by omega)]; rfl
end Go.Proofs.YtgmlbldjdhonjaaGreatDoor
