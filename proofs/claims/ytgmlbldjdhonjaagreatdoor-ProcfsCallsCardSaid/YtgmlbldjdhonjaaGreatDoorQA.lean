import Derived.Test.YtgmlbldjdhonjaaGreatDoorQN
import Derived.Test.YtgmlbldjdhonjaaGreatDoorPE
namespace Go.Proofs.YtgmlbldjdhonjaaGreatDoor
open Go.Vm
set_option autoImplicit false
set_option linter.unusedVariables false
set_option linter.unusedSimpArgs false
set_option maxRecDepth 100000
theorem wfI {n : Int} (h : (Lit.int .i64 n).wf = true) : -9223372036854775808 ≤ n ∧ n ≤ 9223372036854775807 := by
 have h2 : IntKind.i64.min ≤ n ∧ n ≤ IntKind.i64.max := by simpa [Lit.wf] using h
 exact h2
theorem procfs_copied_eq {p : api_Procs} (h : Mod p) : procfs_copied p = some p := by
 have hn := h.n
 have hm := m5
 unfold procfs_copied slices_Clone_api_Proc_api_Proc
 rw [appL_small (by simp; omega) (by simp; omega), Option.bind_some, Option.bind_some]
 show loopM (fun s => procfs_copied_L11 p p.L s.1 s.2) (0, p.L) = some p
 refine loopM_F (σ := Unit) (τ := Int × List api_Proc) p.L.length (fun _ i => (i, p.L)) (fun s => procfs_copied_L11 p p.L s.1 s.2) (fun _ _ => p) (fun _ _ => True) (s0 := ()) trivial (fun s i hi _ => ?_) (fun s _ => ?_)
 ·left
  refine ⟨(), ?_, rfl, trivial⟩
  have hx := h.e _ (List.getElem_mem hi)
  show procfs_copied_L11 p p.L (i : Int) p.L = _
  unfold procfs_copied_L11 slices_Clone_string_string slices_Clone_api_Wait_api_Wait
  have h1 : (i : Int) < (List.length p.L : Int) := by omega
  have c1 : appL 16 ([] : List Str) p.L[i].Notes = some p.L[i].Notes := by rw [appL_small (by simp; omega) (by simp; omega)]; rfl
  have c2 : appL 24 ([] : List api_Wait) p.L[i].Waits = some p.L[i].Waits := by rw [appL_small (by simp; omega) (by simp; omega)]; rfl
  have hs : List.set p.L i p.L[i] = p.L := List.set_getElem_self hi
  have hs' : List.set p.L i (api_Proc.mk p.L[i].Id p.L[i].Parent p.L[i].State p.L[i].User p.L[i].Name p.L[i].Ns p.L[i].Env p.L[i].Fds p.L[i].Cwd p.L[i].Notes p.L[i].Status p.L[i].Waits p.L[i].Alone) = p.L := hs
  simp only [decide_eq_true h1, if_true, lsAt_nat hi, Option.bind_some, c1, c2, Int.toNat_natCast, hs', wrapNat hi (by omega)]
 ·show procfs_copied_L11 p p.L _ p.L = _
  unfold procfs_copied_L11
  simp
def fileS (p : api_Procs) (id : Int) : api_Proc × Int × Bool :=
 if id = 1 then (noP, 0, true) else if id < 16 ∨ 5 < Int.tmod id 16 then (noP, 0, false) else ((findP p.L (Int.tdiv id 16)).1, Int.tmod id 16, (findP p.L (Int.tdiv id 16)).2)
theorem div16 {id : Int} (h0 : -9223372036854775808 ≤ id) (h1 : id ≤ 9223372036854775807) : IntKind.wrap .i64 (Int.tdiv id 16) = Int.tdiv id 16 := by
 refine wrap64 ?_ ?_
 ·rcases Int.le_total 0 id with h | h
  ·rw [Int.tdiv_eq_ediv_of_nonneg h]; omega
  ·have e : id = -(-id) := by omega
   rw [e, Int.neg_tdiv, Int.tdiv_eq_ediv_of_nonneg (by omega)]; omega
 ·rcases Int.le_total 0 id with h | h
  ·rw [Int.tdiv_eq_ediv_of_nonneg h]; omega
  ·have e : id = -(-id) := by omega
   rw [e, Int.neg_tdiv, Int.tdiv_eq_ediv_of_nonneg (by omega)]; omega
theorem procfs_file_eq {p : api_Procs} (h : Mod p) {id : Int} (h0 : -9223372036854775808 ≤ id) (h1 : id ≤ 9223372036854775807) : procfs_file p id = some (fileS p id) := by
 unfold procfs_file fileS
 rw [div16 h0 h1, proc_Find_eq h]
 by_cases a1 : id = 1
 ·simp [a1]
 ·by_cases a2 : id < 16
  ·simp [a1, a2]
  ·by_cases a3 : 5 < Int.tmod id 16
   ·simp [a1, a2, a3]
   ·simp [a1, a2, a3]
theorem ref31_exists_eq {p : api_Procs} (h : Mod p) {id : Int} (h0 : -9223372036854775808 ≤ id) (h1 : id ≤ 9223372036854775807) : ref31_exists p id = some (fileS p id).2.2 := by
 unfold ref31_exists fileS
 rw [div16 h0 h1, ref30_Find_eq h]
 by_cases a1 : id = 1
 ·simp [a1]
 ·by_cases a2 : id < 16
  ·simp [a1, a2]
  ·by_cases a3 : 5 < Int.tmod id 16
   ·simp [a1, a2, a3]
   ·simp [a1, a2, a3]
theorem file_cases {p : api_Procs} {id : Int} : ((fileS p id).2.2 = false) ∨ (id = 1 ∧ fileS p id = (noP, 0, true)) ∨ (16 ≤ id ∧ id ≠ 1 ∧ ∃ (x : api_Proc) (k : Int), x ∈ p.L ∧ findP p.L (Int.tdiv id 16) = (x, true) ∧ Int.tmod id 16 = k ∧ 0 ≤ k ∧ k ≤ 5 ∧ x.Id = Int.tdiv id 16 ∧ id = 16 * x.Id + k ∧ fileS p id = (x, k, true)) := by
 unfold fileS
 by_cases a1 : id = 1
 ·right; left; exact ⟨a1, by rw [if_pos a1]⟩
 ·by_cases a2 : id < 16 ∨ 5 < Int.tmod id 16
  ·left; rw [if_neg a1, if_pos a2]
  ·rw [if_neg a1, if_neg a2]
   cases hf : (findP p.L (Int.tdiv id 16)).2 with
   | false => left; rfl
   | true =>
    right; right
    obtain ⟨hm, hi⟩ := find_mem hf
    have hge : 16 ≤ id := by omega
    have e1 : Int.tmod id 16 = id % 16 := Int.tmod_eq_emod_of_nonneg (by omega)
    have e2 : Int.tdiv id 16 = id / 16 := Int.tdiv_eq_ediv_of_nonneg (by omega)
    refine ⟨hge, a1, (findP p.L (Int.tdiv id 16)).1, Int.tmod id 16, hm, ?_, rfl, by omega, by omega, hi, ?_, rfl⟩
    ·rw [← hf]
    ·rw [hi, e2, e1]; omega
def nameS (id : Int) : Str := if id = 1 then [47] else if Int.tmod id 16 = 1 then [99, 116, 108] else if Int.tmod id 16 = 2 then [115, 116, 97, 116, 117, 115] else if Int.tmod id 16 = 3 then [110, 111, 116, 101] else if Int.tmod id 16 = 4 then [119, 97, 105, 116] else if Int.tmod id 16 = 5 then [99, 119, 100] else Go.Lib.itoa (Int.tdiv id 16)
theorem div_range {id : Int} (h0 : -9223372036854775808 ≤ id) (h1 : id ≤ 9223372036854775807) : -9223372036854775808 ≤ Int.tdiv id 16 ∧ Int.tdiv id 16 ≤ 9223372036854775807 := by
 have h := div16 h0 h1
 have h2 : IntKind.i64.min ≤ IntKind.wrap .i64 (Int.tdiv id 16) ∧ IntKind.wrap .i64 (Int.tdiv id 16) ≤ IntKind.i64.max := by
  rcases Int.le_total 0 id with h | h
  ·rw [div16 h0 h1, Int.tdiv_eq_ediv_of_nonneg h]
   show (-9223372036854775808 : Int) ≤ _ ∧ _ ≤ (9223372036854775807 : Int)
   omega
  ·have e : id = -(-id) := by omega
   rw [div16 h0 h1, e, Int.neg_tdiv, Int.tdiv_eq_ediv_of_nonneg (by omega)]
   show (-9223372036854775808 : Int) ≤ _ ∧ _ ≤ (9223372036854775807 : Int)
   omega
 rw [h] at h2
 exact h2
theorem procfs_name_eq {id : Int} (h0 : -9223372036854775808 ≤ id) (h1 : id ≤ 9223372036854775807) : procfs_name id = some (nameS id) := by
 unfold procfs_name nameS
 rw [div16 h0 h1, num_Text_eq (div_range h0 h1).1 (div_range h0 h1).2]
 by_cases a0 : id = 1
 ·simp [a0]
 ·by_cases a1 : Int.tmod id 16 = 1
  ·simp [a0, a1]
  ·by_cases a2 : Int.tmod id 16 = 2
   ·simp [a0, a2]
   ·by_cases a3 : Int.tmod id 16 = 3
    ·simp [a0, a3]
    ·by_cases a4 : Int.tmod id 16 = 4
     ·simp [a0, a4]
     ·by_cases a5 : Int.tmod id 16 = 5
      ·simp [a0, a5]
      ·simp [a0, a1, a2, a3, a4, a5]
def stateW (n : Int) : Str := if n = 1 then [114, 101, 97, 100, 121] else if n = 2 then [115, 116, 111, 112, 112, 101, 100] else if n = 3 then [98, 114, 111, 107, 101, 110] else if n = 4 then [103, 111, 110, 101] else [117, 110, 107, 110, 111, 119, 110]
def statusS (x : api_Proc) : Str := x.Name ++ [32] ++ x.User ++ [32] ++ stateW x.State ++ [32] ++ Go.Lib.itoa x.Parent ++ [10]
theorem stateW_len (n : Int) : (stateW n).length ≤ 7 := by
 unfold stateW
 repeat' split
 all_goals simp
theorem procfs_Status_eq {x : api_Proc} (h1 : x.Name.length ≤ 100000) (h2 : x.User.length ≤ 100000) (h3 : -9223372036854775808 ≤ x.Parent ∧ x.Parent ≤ 9223372036854775807) : procfs_Status x = some (statusS x) := by
 have hl := itoa_len h3.1 h3.2
 have k1 : ∀ w : Str, w.length ≤ 7 → procfs_Status_K1 x w = some (x.Name ++ [32] ++ x.User ++ [32] ++ w ++ [32] ++ Go.Lib.itoa x.Parent ++ [10]) := fun w hw => by
  unfold procfs_Status_K1
  rw [num_Text_eq h3.1 h3.2]
  repeat' rw [catS_small (by simp; omega), Option.bind_some]
  rw [Option.bind_some]
  repeat' rw [catS_small (by simp; omega), Option.bind_some]
 unfold procfs_Status
 have hs := stateW_len x.State
 unfold statusS stateW
 by_cases a1 : x.State = 1
 ·simp only [a1]; exact k1 _ (by simp)
 ·by_cases a2 : x.State = 2
  ·simp only [a2]; exact k1 _ (by simp)
  ·by_cases a3 : x.State = 3
   ·simp only [a3]; exact k1 _ (by simp)
   ·by_cases a4 : x.State = 4
    ·simp only [a4]; exact k1 _ (by simp)
    ·simp only [decide_eq_false a1, decide_eq_false a2, decide_eq_false a3, decide_eq_false a4, Bool.false_eq_true, if_false, if_neg a1, if_neg a2, if_neg a3, if_neg a4]
     exact k1 _ (by simp)
theorem ref31_Status_eq {x : api_Proc} (h1 : x.Name.length ≤ 100000) (h2 : x.User.length ≤ 100000) (h3 : -9223372036854775808 ≤ x.Parent ∧ x.Parent ≤ 9223372036854775807) : ref31_Status x = some (statusS x) := by
 have hl := itoa_len h3.1 h3.2
 have hs := stateW_len x.State
 have e : ref31_state x.State = some (stateW x.State) := by
  unfold ref31_state stateW
  by_cases a1 : x.State = 1
  ·simp [a1]
  ·by_cases a2 : x.State = 2
   ·simp [a2]
   ·by_cases a3 : x.State = 3
    ·simp [a3]
    ·by_cases a4 : x.State = 4
     ·simp [a4]
     ·simp [a1, a2, a3, a4]
 unfold ref31_Status
 rw [e, ref01_Text_eq h3.1 h3.2]
 repeat' rw [catS_small (by simp; omega), Option.bind_some]
 rw [Option.bind_some]
 repeat' rw [catS_small (by simp; omega), Option.bind_some]
 rw [Option.bind_some]
 repeat' rw [catS_small (by simp; omega), Option.bind_some]
 rfl
end Go.Proofs.YtgmlbldjdhonjaaGreatDoor
