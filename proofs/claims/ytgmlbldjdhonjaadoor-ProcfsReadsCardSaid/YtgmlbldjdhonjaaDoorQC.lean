import Derived.Test.YtgmlbldjdhonjaaDoorQB
namespace Go.Proofs.YtgmlbldjdhonjaaDoor
open Go.Vm
set_option autoImplicit false
set_option linter.unusedVariables false
set_option linter.unusedSimpArgs false
set_option maxRecDepth 100000
def gr (a g : Int) : Bool := !decide ((IntKind.wrap .i64 ((BitVec.ofInt (IntKind.bits .i64) a &&& ~~~ (BitVec.ofInt (IntKind.bits .i64) g)).toNat : Nat)) = 0)
theorem ref31_directory_eq (id : Int) : ref31_directory id = some (decide (id = 1) || (decide (16 ≤ id) && decide (Int.tmod id 16 = 0))) := rfl
theorem ref31_mode_root : ref31_mode 1 = some 2147484013 := by rfl
theorem ref31_mode_eq {id k : Int} (h1 : id ≠ 1) (h16 : 16 ≤ id) (hk : Int.tmod id 16 = k) : ref31_mode id = some (modeS k) := by
 unfold ref31_mode modeS
 rw [ref31_directory_eq, hk]
 by_cases a0 : k = 0
 ·simp [a0, h16]
 ·by_cases a1 : k = 1
  ·simp [h1, a1]
  ·by_cases a3 : k = 3
   ·simp [h1, a3]
   ·by_cases a4 : k = 4
    ·simp [h1, a4]
    ·simp [h1, a0, a1, a3, a4]
theorem loop_find {α ρ : Type} (l : List α) (pr : α → Bool) (f : α → ρ) (bad : ρ) (body : Int → Option (Step Int ρ)) (hb : ∀ (i : Nat) (h : i < l.length), body i = some (if pr l[i] = true then .done (f l[i]) else .cont ((i : Int) + 1)))
  (he : body l.length = some (.done bad)) : loopM body 0 = some (((l.find? pr).map f).getD bad) := by
 have := loopM_F (σ := Unit) l.length (fun _ i => i) body (fun i _ => (((l.drop i).find? pr).map f).getD bad) (fun _ _ => True) (s0 := ()) trivial (fun s i hi _ => by
  have h := hb i hi
  cases hp : pr l[i] with
  | true => right; rw [h, hp, List.drop_eq_getElem_cons hi, List.find?_cons, hp]; rfl
  | false => left; exact ⟨(), by rw [h, hp]; rfl, by rw [List.drop_eq_getElem_cons hi, List.find?_cons, hp], trivial⟩) (fun s _ => by rw [he, List.drop_length]; rfl)
 simpa using this
def five : List Int := [1, 2, 3, 4, 5]
theorem five_at {i : Nat} (h : i < five.length) : five[i] = (i : Int) + 1 := by
 have h' : i < 5 := h
 rcases (by omega : i = 0 ∨ i = 1 ∨ i = 2 ∨ i = 3 ∨ i = 4) with rfl | rfl | rfl | rfl | rfl <;> rfl
theorem loop_find1 {ρ : Type} (pr : Int → Bool) (f : Int → ρ) (bad : ρ) (body : Int → Option (Step Int ρ)) (hb : ∀ k : Int, 1 ≤ k → k ≤ 5 → body k = some (if pr k = true then .done (f k) else .cont (k + 1)))
  (he : body 6 = some (.done bad)) : loopM body 1 = some (((five.find? pr).map f).getD bad) := by
 have := loopM_F (σ := Unit) (τ := Int) 5 (fun _ i => i + 1) body (fun i _ => (((five.drop i).find? pr).map f).getD bad) (fun _ _ => True) (s0 := ()) trivial (fun s i hi _ => by
  have h := hb ((i : Int) + 1) (by omega) (by omega)
  have hl : i < five.length := hi
  have hv := five_at hl
  cases hp : pr ((i : Int) + 1) with
  | true => right; rw [h, hp, List.drop_eq_getElem_cons hl, hv, List.find?_cons, hp]; rfl
  | false => left; exact ⟨(), by rw [h, hp]; rfl, by rw [List.drop_eq_getElem_cons hl, hv, List.find?_cons, hp], trivial⟩) (fun s _ => by
   show body 6 = _
   rw [he]; rfl)
 simpa using this
def childS (p : api_Procs) (id : Int) : List Int := if id = 1 then p.L.map (fun x => 16 * x.Id) else five.map (fun k => id + k)
theorem Good.idR {p : api_Procs} (g : Good p) {x : api_Proc} (hx : x ∈ p.L) : 1 ≤ x.Id ∧ x.Id ≤ 1048576 := by
 have h1 := g.ge1 hx
 have h2 := g.lst x hx
 have h3 := g.nx
 omega
theorem procfs_children_eq {p : api_Procs} (g : Good p) {id : Int} (h0 : 0 ≤ id) (h1 : id ≤ 9223372036854775000) : procfs_children p id = some (childS p id) := by
 have hn := g.n2
 unfold procfs_children childS
 by_cases hi : id = 1
 ·simp only [hi, decide_true, Bool.not_true, Bool.false_eq_true, if_false, if_true]
  refine loop_map p.L (fun x => 16 * x.Id) (fun s i => (i, s)) (fun s => procfs_children_L13 p s.1 s.2) _ (fun s i hi hs => ?_) ?_
  ·show procfs_children_L13 p (i : Int) s = _
   unfold procfs_children_L13
   have hx := g.idR (List.getElem_mem hi)
   have h1 : (i : Int) < (List.length p.L : Int) := by omega
   simp only [decide_eq_true h1, if_true, lsAt_nat hi, Option.bind_some, wrapNat hi (by unfold maxLen; omega)]
   rw [wrap64 (by omega) (by omega), appL_small (by simp; omega) (by simp; omega), Option.bind_some]
  ·show procfs_children_L13 p (p.L.length : Int) _ = _
   unfold procfs_children_L13
   simp
 ·simp only [decide_eq_false hi, Bool.not_false, if_true, if_neg hi]
  refine loop_map five (fun k => id + k) (fun s i => (i + 1, s)) (fun s => procfs_children_L5 id s.1 s.2) _ (fun s i hi hs => ?_) ?_
  ·have hi5 : i < 5 := hi
   show procfs_children_L5 id ((i : Int) + 1) s = _
   unfold procfs_children_L5
   have h1 : (i : Int) + 1 ≤ 5 := by omega
   simp only [decide_eq_true h1, if_true, five_at hi]
   rw [wrap64 (n := id + ((i : Int) + 1)) (by omega) (by omega), appL_small (by simp; omega) (by simp; omega), Option.bind_some, wrap64 (by omega) (by omega)]
  ·show procfs_children_L5 id 6 _ = _
   unfold procfs_children_L5
   simp
theorem Good.small {p : api_Procs} (g : Good p) {id : Int} (h : (fileS p id).2.2 = true) : 0 ≤ id ∧ id ≤ 16777221 := by
 rcases file_cases (p := p) (id := id) with hfi | ⟨rfl, hfi⟩ | ⟨h16, hn1, x, k, hx, hf, hk, hk0, hk5, _, hid, hfi⟩
 ·rw [hfi] at h; cases h
 ·omega
 ·have := g.idR hx; omega
def walkS (p : api_Procs) (id : Int) (s : Str) : Int × Int :=
 if (fileS p id).2.2 = false then (0, 8) else if (fileS p id).2.1 ≠ 0 then (0, 9) else if s = [46, 46] then (1, 0)
 else (((childS p id).find? fun c => decide (nameS c = s)).map fun c => (c, 0)).getD (0, 8)
theorem child_mem {p : api_Procs} (g : Good p) {id c : Int} (h0 : 0 ≤ id) (h1 : id ≤ 16777221) (hc : c ∈ childS p id) : 0 ≤ c ∧ c ≤ 16777300 := by
 unfold childS at hc
 split at hc
 ·obtain ⟨x, hx, rfl⟩ := List.mem_map.1 hc
  have := g.idR hx; omega
 ·obtain ⟨k, hk, rfl⟩ := List.mem_map.1 hc
  unfold five at hk
  simp only [List.mem_cons, List.not_mem_nil, or_false] at hk
  omega
theorem child_len {p : api_Procs} (g : Good p) (id : Int) : (childS p id).length ≤ 64 := by
 have := g.n2
 unfold childS five
 split
 ·simpa using this
 ·simp
theorem procfs_Walk_eq {p : api_Procs} (g : Good p) {id : Int} (h0 : -9223372036854775808 ≤ id) (h1 : id ≤ 9223372036854775807) (s : Str) : procfs_Walk p id s = some (walkS p id s) := by
 have h := g.mod
 unfold procfs_Walk walkS
 rw [procfs_file_eq h h0 h1, Option.bind_some]
 cases hfi : (fileS p id).2.2 with
 | false => simp
 | true =>
  have hsm := g.small hfi
  by_cases a0 : (fileS p id).2.1 = 0
  ·by_cases hs : s = [46, 46]
   ·simp [a0, hs]
   ·have hcl := child_len g id
    simp only [a0, decide_true, Bool.not_true, Bool.false_eq_true, if_false, decide_eq_false hs, procfs_children_eq g hsm.1 (by omega), Option.bind_some, hs, ne_eq, not_true_eq_false, reduceCtorEq]
    refine loop_find (childS p id) (fun c => decide (nameS c = s)) (fun c => (c, (0 : Int))) (0, 8) _ (fun i hi => ?_) ?_
    ·unfold procfs_Walk_L11
     have hm := child_mem g hsm.1 hsm.2 (List.getElem_mem hi)
     have hlt : (i : Int) < (List.length (childS p id) : Int) := by omega
     simp only [decide_eq_true hlt, if_true, lsAt_nat hi, Option.bind_some, procfs_name_eq (id := (childS p id)[i]) (by omega) (by omega), wrapNat hi (by unfold maxLen; omega)]
     split <;> rfl
    ·unfold procfs_Walk_L11
     simp
  ·simp [a0]
theorem nameS_five {id k : Int} (h16 : 16 ≤ id) (hm : Int.tmod id 16 = 0) (hk : k ∈ five) : nameS (id + k) = (if k = 1 then [99, 116, 108] else if k = 2 then [115, 116, 97, 116, 117, 115] else if k = 3 then [110, 111, 116, 101] else if k = 4 then [119, 97, 105, 116] else [99, 119, 100]) := by
 have e1 : Int.tmod id 16 = id % 16 := Int.tmod_eq_emod_of_nonneg (by omega)
 unfold five at hk
 simp only [List.mem_cons, List.not_mem_nil, or_false] at hk
 have e2 : Int.tmod (id + k) 16 = k := by
  rw [Int.tmod_eq_emod_of_nonneg (by omega)]; omega
 unfold nameS
 rw [e2, if_neg (by omega)]
 rcases hk with rfl | rfl | rfl | rfl | rfl <;> rfl
theorem nameS_proc {n : Int} (h : 1 ≤ n) : nameS (16 * n) = Go.Lib.itoa n := by
 have e2 : Int.tmod (16 * n) 16 = 0 := by rw [Int.tmod_eq_emod_of_nonneg (by omega)]; omega
 have e3 : Int.tdiv (16 * n) 16 = n := by rw [Int.tdiv_eq_ediv_of_nonneg (by omega)]; omega
 unfold nameS
 rw [e2, e3, if_neg (by omega)]; rfl
theorem find_congr' {α : Type} {l : List α} {f g : α → Bool} (h : ∀ x ∈ l, f x = g x) : l.find? f = l.find? g := by
 induction l with
 | nil => rfl
 | cons a r ih =>
  simp only [List.find?_cons, h a (by simp)]
  rw [ih fun x hx => h x (by simp [hx])]
theorem ref31_Walk_eq {p : api_Procs} (g : Good p) {id : Int} (h0 : -9223372036854775808 ≤ id) (h1 : id ≤ 9223372036854775807) (s : Str) : ref31_Walk p id s = some (walkS p id s) := by
 have h := g.mod
 have hn2 := g.n2
 unfold ref31_Walk walkS
 rw [ref31_exists_eq h h0 h1, Option.bind_some, ref31_directory_eq, Option.bind_some]
 rcases file_cases (p := p) (id := id) with hfi | ⟨rfl, hfi⟩ | ⟨h16, hn1, x, k, hx, hf, hk, hk0, hk5, _, hid, hfi⟩
 ·simp [hfi]
 ·rw [hfi]
  by_cases hs : s = [46, 46]
  ·simp [hs]
  ·simp only [decide_true, Bool.true_or, Bool.not_true, Bool.false_eq_true, if_false, decide_eq_false hs, ne_eq, not_true_eq_false, hs, reduceCtorEq]
   refine loopM_done ?_
   unfold ref31_Walk_L10
   simp only [show decide ((1 : Int) < 1) = false from rfl, Bool.and_false, Bool.false_eq_true, if_false]
   have := loop_find p.L (fun x => decide (Go.Lib.itoa x.Id = s)) (fun x => (16 * x.Id, (0 : Int))) (0, 8) (fun i => ref31_Walk_L24 p 1 s i) (fun i hi => by
    have hx := g.idR (List.getElem_mem hi)
    have hlt : (i : Int) < (List.length p.L : Int) := by omega
    unfold ref31_Walk_L24
    simp only [decide_eq_true hlt, decide_true, Bool.and_self, if_true, lsAt_nat hi, Option.bind_some, ref01_Text_eq (n := p.L[i].Id) (by omega) (by omega), wrapNat hi (by unfold maxLen; omega)]
    rw [wrap64 (by omega) (by omega)]
    split <;> rfl) (by unfold ref31_Walk_L24; simp)
   rw [this]
   unfold childS
   rw [if_pos rfl, List.find?_map]
   congr 2
   have hc : p.L.find? ((fun c => decide (nameS c = s)) ∘ fun x => 16 * x.Id) = p.L.find? (fun x => decide (Go.Lib.itoa x.Id = s)) := find_congr' fun x hx => by
    show decide (nameS (16 * x.Id) = s) = _
    rw [nameS_proc (g.idR hx).1]
   rw [hc]
   cases p.L.find? (fun x => decide (Go.Lib.itoa x.Id = s)) <;> rfl
 ·rw [hfi, hk]
  simp only [decide_eq_false hn1, decide_eq_true h16, Bool.false_or, Bool.true_and, Bool.not_true, Bool.false_eq_true, if_false]
  by_cases a0 : k = 0
  ·by_cases hs : s = [46, 46]
   ·simp [a0, hs]
   ·simp only [a0, decide_true, Bool.not_true, Bool.false_eq_true, if_false, decide_eq_false hs, ne_eq, not_true_eq_false, hs, reduceCtorEq]
    have hid2 := g.idR hx
    have hlt : 1 < id := by omega
    have := loop_find1 (fun k => decide ((if k = 1 then [99, 116, 108] else if k = 2 then [115, 116, 97, 116, 117, 115] else if k = 3 then [110, 111, 116, 101] else if k = 4 then [119, 97, 105, 116] else ([99, 119, 100] : Str)) = s)) (fun k => (id + k, (0 : Int))) (0, 8) (fun k => ref31_Walk_L10 p id s k) (fun k hk1 hk5 => by
     unfold ref31_Walk_L10
     simp only [decide_eq_true hk5, decide_eq_true hlt, Bool.and_self, if_true, ref31_names_eq, Option.bind_some]
     rw [wrap64 (n := id + k) (by omega) (by omega), wrap64 (by omega) (by omega)]
     exact some_ite) (by
     unfold ref31_Walk_L10
     simp only [show decide ((6 : Int) ≤ 5) = false from rfl, Bool.false_and, Bool.false_eq_true, if_false]
     have : loopM (fun s_1 => ref31_Walk_L24 p id s s_1) 0 = some (0, 8) := loopM_done (by
      unfold ref31_Walk_L24
      simp [hn1])
     rw [this]; rfl)
    rw [this]
    unfold childS
    rw [if_neg hn1, List.find?_map]
    congr 2
    have hc : five.find? ((fun c => decide (nameS c = s)) ∘ fun k => id + k) = five.find? (fun k => decide ((if k = 1 then [99, 116, 108] else if k = 2 then [115, 116, 97, 116, 117, 115] else if k = 3 then [110, 111, 116, 101] else if k = 4 then [119, 97, 105, 116] else ([99, 119, 100] : Str)) = s)) := find_congr' fun k hkm => by
     show decide (nameS (id + k) = s) = _
     rw [nameS_five h16 (by rw [hk, a0]) hkm]
    rw [hc]
    cases five.find? (fun k => decide ((if k = 1 then [99, 116, 108] else if k = 2 then [115, 116, 97, 116, 117, 115] else if k = 3 then [110, 111, 116, 101] else if k = 4 then [119, 97, 105, 116] else ([99, 119, 100] : Str)) = s)) <;> rfl
  ·simp [a0]
abbrev noD : api_Dir := api_Dir.mk 0 0 (api_Qid.mk 0 0 0) 0 0 0 0 [] [] [] []
def statS (p : api_Procs) (id : Int) : api_Dir × Int :=
 if (fileS p id).2.2 = false then (noD, 8)
 else (api_Dir.mk 9 0 (api_Qid.mk (if (fileS p id).2.1 = 0 then 128 else 0) 0 id) (modeS (fileS p id).2.1) 0 0 0 (nameS id) (fileS p id).1.User (fileS p id).1.User [], 0)
theorem procfs_Stat_eq {p : api_Procs} (h : Mod p) {id : Int} (h0 : -9223372036854775808 ≤ id) (h1 : id ≤ 9223372036854775807) : procfs_Stat p id = some (statS p id) := by
 unfold procfs_Stat statS
 rw [procfs_file_eq h h0 h1, Option.bind_some, procfs_mode_eq, procfs_name_eq h0 h1]
 cases hfi : (fileS p id).2.2 with
 | false => simp
 | true =>
  by_cases a0 : (fileS p id).2.1 = 0
  ·simp [a0]
  ·simp [a0]
theorem ref31_Stat_eq {p : api_Procs} (g : Good p) {id : Int} (h0 : -9223372036854775808 ≤ id) (h1 : id ≤ 9223372036854775807) : ref31_Stat p id = some (statS p id) := by
 have h := g.mod
 unfold ref31_Stat statS
 rw [ref31_exists_eq h h0 h1, Option.bind_some, ref31_directory_eq]
 rcases file_cases (p := p) (id := id) with hfi | ⟨rfl, hfi⟩ | ⟨h16, hn1, x, k, hx, hf, hk, hk0, hk5, hxi, hid, hfi⟩
 ·simp [hfi]
 ·rw [hfi, ref31_mode_root]
  unfold ref31_Stat_K4
  simp [modeS, nameS]
 ·have hix := g.idR hx
  rw [hfi, ref31_mode_eq hn1 h16 hk, hk]
  have k6 : ∀ (m q : Int) (w : Str), ref31_Stat_K6 p id m q w = some (api_Dir.mk 9 0 (api_Qid.mk q 0 id) m 0 0 0 w x.User x.User [], 0) := fun m q w => by
   unfold ref31_Stat_K6
   rw [div16 h0 h1, ref30_Find_eq h, hf]; rfl
  have k4 : ∀ m q : Int, ref31_Stat_K4 p id m q = some (api_Dir.mk 9 0 (api_Qid.mk q 0 id) m 0 0 0 (nameS id) x.User x.User [], 0) := fun m q => by
   unfold ref31_Stat_K4
   rw [ref31_directory_eq, hk, div16 h0 h1, ref01_Text_eq (div_range h0 h1).1 (div_range h0 h1).2, ref31_names_eq]
   simp only [decide_eq_false hn1, Bool.false_eq_true, if_false, Bool.false_or, decide_eq_true h16, Bool.true_and, Option.bind_some, k6]
   unfold nameS
   rw [if_neg hn1, hk]
   rcases (by omega : k = 0 ∨ k = 1 ∨ k = 2 ∨ k = 3 ∨ k = 4 ∨ k = 5) with rfl | rfl | rfl | rfl | rfl | rfl <;> rfl
  simp only [Bool.not_true, Bool.false_eq_true, if_false, Option.bind_some, decide_eq_false hn1, Bool.false_or, decide_eq_true h16, Bool.true_and, k4, reduceCtorEq]
  by_cases a0 : k = 0
  ·simp [a0]
  ·simp [a0]
def listS (p : api_Procs) (id : Int) : List api_Dir × Int :=
 if (fileS p id).2.2 = false then ([], 8) else if (fileS p id).2.1 ≠ 0 then ([], 9) else ((childS p id).map fun c => (statS p c).1, 0)
theorem procfs_List_eq {p : api_Procs} (g : Good p) {id : Int} (h0 : -9223372036854775808 ≤ id) (h1 : id ≤ 9223372036854775807) : procfs_List p id = some (listS p id) := by
 have h := g.mod
 unfold procfs_List listS
 rw [procfs_file_eq h h0 h1, Option.bind_some]
 cases hfi : (fileS p id).2.2 with
 | false => simp
 | true =>
  have hsm := g.small hfi
  have hcl := child_len g id
  by_cases a0 : (fileS p id).2.1 = 0
  ·simp only [a0, decide_true, Bool.not_true, Bool.false_eq_true, if_false, procfs_children_eq g hsm.1 (by omega), Option.bind_some, ne_eq, not_true_eq_false, reduceCtorEq]
   refine loop_map (childS p id) (fun c => (statS p c).1) (fun s i => (i, s)) (fun s => procfs_List_L11 p (childS p id) s.1 s.2) _ (fun s i hi hs => ?_) ?_
   ·show procfs_List_L11 p (childS p id) (i : Int) s = _
    unfold procfs_List_L11
    have hm := child_mem g hsm.1 hsm.2 (List.getElem_mem hi)
    have hlt : (i : Int) < (List.length (childS p id) : Int) := by omega
    simp only [decide_eq_true hlt, if_true, lsAt_nat hi, Option.bind_some, procfs_Stat_eq h (id := (childS p id)[i]) (by omega) (by omega), wrapNat hi (by unfold maxLen; omega)]
    rw [appL_small (by simp; omega) (by simp; omega), Option.bind_some]
   ·show procfs_List_L11 p (childS p id) (List.length (childS p id) : Int) _ = _
    unfold procfs_List_L11
    simp
  ·simp [a0]
theorem ref31_List_eq {p : api_Procs} (g : Good p) {id : Int} (h0 : -9223372036854775808 ≤ id) (h1 : id ≤ 9223372036854775807) : ref31_List p id = some (listS p id) := by
 have h := g.mod
 have hn2 := g.n2
 have l33 : ∀ ids : List Int, ids.length ≤ 64 → (∀ c ∈ ids, 0 ≤ c ∧ c ≤ 16777300) → loopM (fun s => ref31_List_L33 p ids s.1 s.2) (0, ([] : List api_Dir)) = some (ids.map fun c => (statS p c).1, 0) := fun ids hl hb => by
  refine loop_map ids (fun c => (statS p c).1) (fun s i => (i, s)) (fun s => ref31_List_L33 p ids s.1 s.2) _ (fun s i hi hs => ?_) ?_
  ·show ref31_List_L33 p ids (i : Int) s = _
   unfold ref31_List_L33
   have hm := hb _ (List.getElem_mem hi)
   have hlt : (i : Int) < (List.length ids : Int) := by omega
   simp only [decide_eq_true hlt, if_true, lsAt_nat hi, Option.bind_some, ref31_Stat_eq g (id := ids[i]) (by omega) (by omega), wrapNat hi (by unfold maxLen; omega)]
   rw [appL_small (by simp; omega) (by simp; omega), Option.bind_some]
  ·show ref31_List_L33 p ids (List.length ids : Int) _ = _
   unfold ref31_List_L33
   simp
 unfold ref31_List listS
 rw [ref31_exists_eq h h0 h1, Option.bind_some, ref31_directory_eq, Option.bind_some]
 rcases file_cases (p := p) (id := id) with hfi | ⟨rfl, hfi⟩ | ⟨h16, hn1, x, k, hx, hf, hk, hk0, hk5, _, hid, hfi⟩
 ·simp [hfi]
 ·rw [hfi]
  simp only [decide_true, Bool.true_or, Bool.not_true, Bool.false_eq_true, if_false, ne_eq, not_true_eq_false, reduceCtorEq]
  refine loop_map p.L (fun x => 16 * x.Id) (fun s i => (i, s)) (fun s => ref31_List_L12 p 1 s.1 s.2) _ (fun s i hi hs => ?_) ?_
  ·show ref31_List_L12 p 1 (i : Int) s = _
   unfold ref31_List_L12
   have hx := g.idR (List.getElem_mem hi)
   have hlt : (i : Int) < (List.length p.L : Int) := by omega
   simp only [decide_eq_true hlt, decide_true, Bool.and_self, if_true, lsAt_nat hi, Option.bind_some, wrapNat hi (by unfold maxLen; omega)]
   rw [wrap64 (by omega) (by omega), appL_small (by simp; omega) (by simp; omega), Option.bind_some]
  ·show ref31_List_L12 p 1 (p.L.length : Int) _ = _
   unfold ref31_List_L12
   have hd : decide ((p.L.length : Int) < (List.length p.L : Int)) = false := by simp
   simp only [hd, Bool.false_and, Bool.false_eq_true, if_false]
   have : loopM (fun s => ref31_List_L22 p 1 s.1 s.2) (1, p.L.map fun x => 16 * x.Id) = some ((childS p 1).map fun c => (statS p c).1, 0) := loopM_done (by
    show ref31_List_L22 p 1 1 (p.L.map fun x => 16 * x.Id) = _
    unfold ref31_List_L22
    simp only [show decide ((1 : Int) < 1) = false from rfl, Bool.and_false, Bool.false_eq_true, if_false]
    have := l33 (childS p 1) (child_len g 1) (fun c hc => child_mem g (by omega) (by omega) hc)
    unfold childS at this ⊢
    rw [if_pos rfl] at this ⊢
    rw [this]; rfl)
   rw [this]; rfl
 ·rw [hfi, hk]
  have hix := g.idR hx
  simp only [decide_eq_false hn1, decide_eq_true h16, Bool.false_or, Bool.true_and, Bool.not_true, Bool.false_eq_true, if_false]
  by_cases a0 : k = 0
  ·simp only [a0, decide_true, Bool.not_true, Bool.false_eq_true, if_false, ne_eq, not_true_eq_false, reduceCtorEq]
   refine loopM_done ?_
   show ref31_List_L12 p id 0 [] = _
   unfold ref31_List_L12
   simp only [decide_eq_false hn1, Bool.and_false, Bool.false_eq_true, if_false]
   have hlt : 1 < id := by omega
   have : loopM (fun s => ref31_List_L22 p id s.1 s.2) (1, ([] : List Int)) = some ((childS p id).map fun c => (statS p c).1, 0) := by
    refine loop_map five (fun k => id + k) (fun s i => (i + 1, s)) (fun s => ref31_List_L22 p id s.1 s.2) _ (fun s i hi hs => ?_) ?_
    ·have hi5 : i < 5 := hi
     show ref31_List_L22 p id ((i : Int) + 1) s = _
     unfold ref31_List_L22
     have h1 : (i : Int) + 1 ≤ 5 := by omega
     simp only [decide_eq_true h1, decide_eq_true hlt, Bool.and_self, if_true, five_at hi]
     rw [wrap64 (n := id + ((i : Int) + 1)) (by omega) (by omega), appL_small (by simp; omega) (by simp; omega), Option.bind_some, wrap64 (by omega) (by omega)]
    ·show ref31_List_L22 p id 6 _ = _
     unfold ref31_List_L22
     simp only [show decide ((6 : Int) ≤ 5) = false from rfl, Bool.false_and, Bool.false_eq_true, if_false]
     have := l33 (childS p id) (child_len g id) (fun c hc => child_mem g (by omega) (by omega) hc)
     unfold childS at this ⊢
     rw [if_neg hn1] at this ⊢
     rw [this]; rfl
   rw [this]; rfl
  ·simp [a0]
theorem ref11_Same_refl {l : List api_Dir} (h : l.length ≤ maxLen) : ref11_Same l l = some true := by
 unfold ref11_Same
 simp only [decide_true, Bool.not_true, Bool.false_eq_true, if_false]
 refine (loop_all l (fun _ => true) _ (fun i hi => ?_) ?_).trans (by simp)
 ·unfold ref11_Same_L7
  have h1 : (i : Int) < (List.length l : Int) := by omega
  simp only [decide_eq_true h1, if_true, lsAt_nat hi, Option.bind_some, decide_true, Bool.and_self, Bool.not_true, Bool.false_eq_true, if_false, wrapNat hi h]
 ·unfold ref11_Same_L7
  simp
end Go.Proofs.YtgmlbldjdhonjaaDoor
