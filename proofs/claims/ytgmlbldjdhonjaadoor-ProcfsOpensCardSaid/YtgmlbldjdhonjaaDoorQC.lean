import Derived.Test.YtgmlbldjdhonjaaDoorQB
namespace Go.Proofs.YtgmlbldjdhonjaaDoor
open Go.Vm
set_option autoImplicit false
set_option linter.unusedVariables false
set_option linter.unusedSimpArgs false
set_option maxRecDepth 100000
def gr (a g : Int) : Bool := !decide ((IntKind.wrap .i64 ((BitVec.ofInt (IntKind.bits .i64) a &&& ~~~ (BitVec.ofInt (IntKind.bits .i64) g)).toNat : Nat)) = 0)
def gr2 (a g : Int) : Bool := (decide ((Int.tmod (IntKind.wrap .i64 (Int.tdiv g 4)) 2) < (Int.tmod (IntKind.wrap .i64 (Int.tdiv a 4)) 2))) || ((decide ((Int.tmod (IntKind.wrap .i64 (Int.tdiv g 2)) 2) < (Int.tmod (IntKind.wrap .i64 (Int.tdiv a 2)) 2))) || (decide ((Int.tmod g 2) < (Int.tmod a 2))))
noncomputable def openC (m : Int) (x1 : Int × Bool × Bool) : Option (Int × Int) :=
 if ((!x1.2.2) || (!decide (m = (Int.tmod m 1000)))) then some (0, 12) else if (decide (x1.1 = 1)) then ref06_Open_K5 x1 2 else ref06_Open_K5 x1 4
noncomputable def chkM (m : Int) : Bool :=
 match perm_Open m, iterN (fun s => ref06_Base_L8 (Int.tmod m 1000) s) 6 0 with
 | some a, some x1 => match openC m x1 with
  | some b => decide (a.2 = b.2) && (!decide (a.2 = 0) || [5, 0, 2, 4].all fun g => gr a.1 g == gr2 b.1 g)
  | none => false
 | _, _ => false
theorem chk_all : (List.range 91).all (fun k => chkM ((k : Int) - 1)) = true := by decide +kernel
theorem open_both {m : Int} (h0 : -1 ≤ m) (h1 : m < 90) : ∃ a b e, perm_Open m = some (a, e) ∧ ref06_Open m = some (b, e) ∧ (e = 0 → ∀ g ∈ ([5, 0, 2, 4] : List Int), gr a g = gr2 b g) := by
 have h := List.all_eq_true.1 chk_all (m + 1).toNat (List.mem_range.2 (by omega))
 rw [show (((m + 1).toNat : Nat) : Int) - 1 = m by omega] at h
 unfold chkM at h
 split at h
 ·rename_i a x1 ha hx
  split at h
  ·rename_i b hb
   simp only [Bool.and_eq_true, decide_eq_true_eq] at h
   obtain ⟨h2, h3⟩ := h
   refine ⟨a.1, b.1, a.2, ha, ?_, fun he g hg => ?_⟩
   ·have hB : ref06_Base (Int.tmod m 1000) = some x1 := loopM_some.2 ⟨6, hx⟩
    unfold ref06_Open
    rw [hB, Option.bind_some, h2]
    exact hb
   ·rw [he] at h3
    simp only [decide_true, Bool.not_true, Bool.false_or, List.all_eq_true, beq_iff_eq] at h3
    exact h3 g hg
  ·cases h
 ·cases h
theorem ref31_directory_eq (id : Int) : ref31_directory id = some (decide (id = 1) || (decide (16 ≤ id) && decide (Int.tmod id 16 = 0))) := rfl
theorem ref31_mode_root : ref31_mode 1 = some 2147484013 := by rfl
theorem ref31_mode_eq {id k : Int} (h1 : id ≠ 1) (h16 : 16 ≤ id) (hk : Int.tmod id 16 = k) : ref31_mode id = some (modeS k) := by
 unfold ref31_mode modeS
 rw [ref31_directory_eq, hk]
 by_cases a0 : k = 0
 ·simp [a0, h16]
 ·by_cases a1 : k = 1
  ·simp [h1, a1]
  ·by_cases a3 : k = 3
   ·simp [h1, a3]
   ·by_cases a4 : k = 4
    ·simp [h1, a4]
    ·simp [h1, a0, a1, a3, a4]
theorem mode_low {k : Int} (h0 : 0 ≤ k) (h5 : k ≤ 5) : Int.tmod (modeS k) 8 ∈ ([5, 0, 2, 4] : List Int) ∧ Int.tmod (IntKind.wrap .i64 (Int.tdiv (modeS k) 64)) 8 ∈ ([5, 0, 2, 4] : List Int) := by
 rcases (by omega : k = 0 ∨ k = 1 ∨ k = 2 ∨ k = 3 ∨ k = 4 ∨ k = 5) with rfl | rfl | rfl | rfl | rfl | rfl <;> decide
theorem Open_same {p : api_Procs} (h : Mod p) (user : Str) {id m : Int} (h0 : -9223372036854775808 ≤ id) (h1 : id ≤ 9223372036854775807) (hm0 : -1 ≤ m) (hm1 : m < 90) : ∃ r, procfs_Open p user id m = some r ∧ ref31_Open p user id m = some r := by
 obtain ⟨a, b, e, ha, hb, hg⟩ := open_both hm0 hm1
 unfold procfs_Open ref31_Open
 rw [procfs_file_eq h h0 h1, ref31_exists_eq h h0 h1, Option.bind_some, Option.bind_some, ha, hb, div16 h0 h1, ref30_Find_eq h]
 have k9 : ∀ g ∈ ([5, 0, 2, 4] : List Int), e = 0 → procfs_Open_K9 m (a, e) g = some (if (decide (64 ≤ m) || gr2 b g) = true then 11 else 0) := fun g hgm he => by
  unfold procfs_Open_K9
  have := hg he g hgm
  unfold gr at this
  simp only [this]
  cases (decide (64 ≤ m) || gr2 b g) <;> rfl
 have k7 : ∀ (i g : Int) (d : Bool), ref31_directory i = some d → (d && !decide (m = 0)) = false → ref31_Open_K7 i m (b, e) g = some (if (decide (64 ≤ m) || gr2 b g) = true then 11 else 0) := fun i g d hd hdm => by
  unfold ref31_Open_K7 gr2
  rw [hd, Option.bind_some, hdm]
  simp only [Bool.false_eq_true, if_false]
  generalize (decide (64 ≤ m) || _) = c
  cases c <;> rfl
 rcases file_cases (p := p) (id := id) with hfi | ⟨rfl, hfi⟩ | ⟨h16, hn1, x, k, hx, hf, hk, hk0, hk5, _, _, hfi⟩
 ·exact ⟨8, by simp [hfi], by simp [hfi]⟩
 ·rw [hfi]
  simp only [Bool.not_true, Bool.false_eq_true, if_false, Option.bind_some]
  by_cases he : e = 0
  ·subst he
   by_cases hm : m = 0
   ·subst hm
    refine ⟨if (decide ((64 : Int) ≤ 0) || gr2 b 5) = true then 11 else 0, ?_, ?_⟩
    ·have q := k9 5 (by simp) rfl
     have e1 : Int.tmod (modeS 0) 8 = 5 := by decide
     have e2 : Int.tmod (IntKind.wrap .i64 (Int.tdiv (modeS 0) 64)) 8 = 5 := by decide
     simp only [decide_true, Bool.not_true, Bool.false_eq_true, if_false, Bool.and_false, procfs_mode_eq, Option.bind_some, e1, e2, q]
     split <;> rfl
    ·have q := k7 1 5 true rfl rfl
     have e3 : Int.tmod 2147484013 8 = 5 := by decide
     simp only [decide_true, Bool.not_true, Bool.false_eq_true, if_false, ref31_mode_root, Option.bind_some, show decide ((16 : Int) ≤ 1) = false from rfl, Bool.false_and, e3, q]
   ·refine ⟨10, ?_, ?_⟩
    ·simp [hm]
    ·simp only [decide_true, Bool.not_true, Bool.false_eq_true, if_false, ref31_mode_root, Option.bind_some, show decide ((16 : Int) ≤ 1) = false from rfl, Bool.false_and]
     unfold ref31_Open_K7
     rw [show ref31_directory 1 = some true from rfl]
     simp [hm]
  ·exact ⟨e, by simp [he], by simp [he]⟩
 ·rw [hfi, hf]
  have hd : ref31_directory id = some (decide (k = 0)) := by rw [ref31_directory_eq, hk]; simp [hn1, h16]
  have hmo := ref31_mode_eq hn1 h16 hk
  obtain ⟨l1, l2⟩ := mode_low hk0 hk5
  simp only [Bool.not_true, Bool.false_eq_true, if_false, Option.bind_some]
  by_cases he : e = 0
  ·subst he
   by_cases hkm : (decide (k = 0) && !decide (m = 0)) = true
   ·refine ⟨10, ?_, ?_⟩
    ·simp only [decide_true, Bool.not_true, Bool.false_eq_true, if_false, hkm, if_true]
    ·have k7' : ∀ g, ref31_Open_K7 id m (b, 0) g = some 10 := fun g => by
      unfold ref31_Open_K7
      rw [hd, Option.bind_some, hkm]; rfl
     simp only [decide_true, Bool.not_true, Bool.false_eq_true, if_false, hmo, Option.bind_some, k7']
     split <;> rfl
   ·have hkm' : (decide (k = 0) && !decide (m = 0)) = false := by simpa using hkm
    have q1 := k9 _ l1 rfl
    have q2 := k9 _ l2 rfl
    have r1 := k7 id (Int.tmod (modeS k) 8) _ hd hkm'
    have r2 := k7 id (Int.tmod (IntKind.wrap .i64 (Int.tdiv (modeS k) 64)) 8) _ hd hkm'
    by_cases hu : x.User = user
    ·refine ⟨if (decide (64 ≤ m) || gr2 b (Int.tmod (IntKind.wrap .i64 (Int.tdiv (modeS k) 64)) 8)) = true then 11 else 0, ?_, ?_⟩
     ·simp only [decide_true, Bool.not_true, Bool.false_eq_true, if_false, hkm', procfs_mode_eq, Option.bind_some, hu, if_true]
      exact q2
     ·simp only [decide_true, Bool.not_true, Bool.false_eq_true, if_false, hmo, Option.bind_some, decide_eq_true h16, Bool.true_and, hu, if_true]
      exact r2
    ·have hu' : ¬ user = x.User := fun e => hu e.symm
     refine ⟨if (decide (64 ≤ m) || gr2 b (Int.tmod (modeS k) 8)) = true then 11 else 0, ?_, ?_⟩
     ·simp only [decide_true, Bool.not_true, Bool.false_eq_true, if_false, hkm', procfs_mode_eq, Option.bind_some, decide_eq_false hu']
      exact q1
     ·simp only [decide_true, Bool.not_true, Bool.false_eq_true, if_false, hmo, Option.bind_some, decide_eq_true h16, Bool.true_and, decide_eq_false hu]
      exact r1
  ·exact ⟨e, by simp [he], by simp [he]⟩
theorem loop_find {α ρ : Type} (l : List α) (pr : α → Bool) (f : α → ρ) (bad : ρ) (body : Int → Option (Step Int ρ)) (hb : ∀ (i : Nat) (h : i < l.length), body i = some (if pr l[i] = true then .done (f l[i]) else .cont ((i : Int) + 1)))
  (he : body l.length = some (.done bad)) : loopM body 0 = some (((l.find? pr).map f).getD bad) := by
 have := loopM_F (σ := Unit) l.length (fun _ i => i) body (fun i _ => (((l.drop i).find? pr).map f).getD bad) (fun _ _ => True) (s0 := ()) trivial (fun s i hi _ => by
  have h := hb i hi
  cases hp : pr l[i] with
  | true => right; rw [h, hp, List.drop_eq_getElem_cons hi, List.find?_cons, hp]; rfl
  | false => left; exact ⟨(), by rw [h, hp]; rfl, by rw [List.drop_eq_getElem_cons hi, List.find?_cons, hp], trivial⟩) (fun s _ => by rw [he, List.drop_length]; rfl)
 simpa using this
def five : List Int := [1, 2, 3, 4, 5]
theorem five_at {i : Nat} (h : i < five.length) : five[i] = (i : Int) + 1 := by
 have h' : i < 5 := h
 rcases (by omega : i = 0 ∨ i = 1 ∨ i = 2 ∨ i = 3 ∨ i = 4) with rfl | rfl | rfl | rfl | rfl <;> rfl
def childS (p : api_Procs) (id : Int) : List Int := if id = 1 then p.L.map (fun x => 16 * x.Id) else five.map (fun k => id + k)
theorem Good.idR {p : api_Procs} (g : Good p) {x : api_Proc} (hx : x ∈ p.L) : 1 ≤ x.Id ∧ x.Id ≤ 1048576 := by
 have h1 := g.ge1 hx
 have h2 := g.lst x hx
 have h3 := g.nx
 omega
theorem procfs_children_eq {p : api_Procs} (g : Good p) {id : Int} (h0 : 0 ≤ id) (h1 : id ≤ 9223372036854775000) : procfs_children p id = some (childS p id) := by
 have hn := g.n2
 unfold procfs_children childS
 by_cases hi : id = 1
 ·simp only [hi, decide_true, Bool.not_true, Bool.false_eq_true, if_false, if_true]
  refine loop_map p.L (fun x => 16 * x.Id) (fun s i => (i, s)) (fun s => procfs_children_L13 p s.1 s.2) _ (fun s i hi hs => ?_) ?_
  ·show procfs_children_L13 p (i : Int) s = _
   unfold procfs_children_L13
   have hx := g.idR (List.getElem_mem hi)
   have h1 : (i : Int) < (List.length p.L : Int) := by omega
   simp only [decide_eq_true h1, if_true, lsAt_nat hi, Option.bind_some, wrapNat hi (by unfold maxLen; omega)]
   rw [wrap64 (by omega) (by omega), appL_small (by simp; omega) (by simp; omega), Option.bind_some]
  ·show procfs_children_L13 p (p.L.length : Int) _ = _
   unfold procfs_children_L13
   simp
 ·simp only [decide_eq_false hi, Bool.not_false, if_true, if_neg hi]
  refine loop_map five (fun k => id + k) (fun s i => (i + 1, s)) (fun s => procfs_children_L5 id s.1 s.2) _ (fun s i hi hs => ?_) ?_
  ·have hi5 : i < 5 := hi
   show procfs_children_L5 id ((i : Int) + 1) s = _
   unfold procfs_children_L5
   have h1 : (i : Int) + 1 ≤ 5 := by omega
   simp only [decide_eq_true h1, if_true, five_at hi]
   rw [wrap64 (n := id + ((i : Int) + 1)) (by omega) (by omega), appL_small (by simp; omega) (by simp; omega), Option.bind_some, wrap64 (by omega) (by omega)]
  ·show procfs_children_L5 id 6 _ = _
   unfold procfs_children_L5
   simp
theorem Good.small {p : api_Procs} (g : Good p) {id : Int} (h : (fileS p id).2.2 = true) : 0 ≤ id ∧ id ≤ 16777221 := by
 rcases file_cases (p := p) (id := id) with hfi | ⟨rfl, hfi⟩ | ⟨h16, hn1, x, k, hx, hf, hk, hk0, hk5, _, hid, hfi⟩
 ·rw [hfi] at h; cases h
 ·omega
 ·have := g.idR hx; omega
def walkS (p : api_Procs) (id : Int) (s : Str) : Int × Int :=
 if (fileS p id).2.2 = false then (0, 8) else if (fileS p id).2.1 ≠ 0 then (0, 9) else if s = [46, 46] then (1, 0)
 else (((childS p id).find? fun c => decide (nameS c = s)).map fun c => (c, 0)).getD (0, 8)
theorem child_mem {p : api_Procs} (g : Good p) {id c : Int} (h0 : 0 ≤ id) (h1 : id ≤ 16777221) (hc : c ∈ childS p id) : 0 ≤ c ∧ c ≤ 16777300 := by
 unfold childS at hc
 split at hc
 ·obtain ⟨x, hx, rfl⟩ := List.mem_map.1 hc
  have := g.idR hx; omega
 ·obtain ⟨k, hk, rfl⟩ := List.mem_map.1 hc
  unfold five at hk
  simp only [List.mem_cons, List.not_mem_nil, or_false] at hk
  omega
theorem child_len {p : api_Procs} (g : Good p) (id : Int) : (childS p id).length ≤ 64 := by
 have := g.n2
 unfold childS five
 split
 ·simpa using this
 ·simp
theorem procfs_Walk_eq {p : api_Procs} (g : Good p) {id : Int} (h0 : -9223372036854775808 ≤ id) (h1 : id ≤ 9223372036854775807) (s : Str) : procfs_Walk p id s = some (walkS p id s) := by
 have h := g.mod
 unfold procfs_Walk walkS
 rw [procfs_file_eq h h0 h1, Option.bind_some]
 cases hfi : (fileS p id).2.2 with
 | false => simp
 | true =>
  have hsm := g.small hfi
  by_cases a0 : (fileS p id).2.1 = 0
  ·by_cases hs : s = [46, 46]
   ·simp [a0, hs]
   ·have hcl := child_len g id
    simp only [a0, decide_true, Bool.not_true, Bool.false_eq_true, if_false, decide_eq_false hs, procfs_children_eq g hsm.1 (by omega), Option.bind_some, hs, ne_eq, not_true_eq_false, reduceCtorEq]
    refine loop_find (childS p id) (fun c => decide (nameS c = s)) (fun c => (c, (0 : Int))) (0, 8) _ (fun i hi => ?_) ?_
    ·unfold procfs_Walk_L11
     have hm := child_mem g hsm.1 hsm.2 (List.getElem_mem hi)
     have hlt : (i : Int) < (List.length (childS p id) : Int) := by omega
     simp only [decide_eq_true hlt, if_true, lsAt_nat hi, Option.bind_some, procfs_name_eq (id := (childS p id)[i]) (by omega) (by omega), wrapNat hi (by unfold maxLen; omega)]
     split <;> rfl
    ·unfold procfs_Walk_L11
     simp
  ·simp [a0]
theorem nameS_proc {n : Int} (h : 1 ≤ n) : nameS (16 * n) = Go.Lib.itoa n := by
 have e2 : Int.tmod (16 * n) 16 = 0 := by rw [Int.tmod_eq_emod_of_nonneg (by omega)]; omega
 have e3 : Int.tdiv (16 * n) 16 = n := by rw [Int.tdiv_eq_ediv_of_nonneg (by omega)]; omega
 unfold nameS
 rw [e2, e3, if_neg (by omega)]; rfl
end Go.Proofs.YtgmlbldjdhonjaaDoor
