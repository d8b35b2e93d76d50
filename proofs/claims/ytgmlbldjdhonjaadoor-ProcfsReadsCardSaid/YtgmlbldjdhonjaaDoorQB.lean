import Derived.Test.YtgmlbldjdhonjaaDoorQA
import Derived.Test.YtgmlbldjdhonjaaDoorPG
namespace Go.Proofs.YtgmlbldjdhonjaaDoor
open Go.Vm
set_option autoImplicit false
set_option linter.unusedVariables false
set_option linter.unusedSimpArgs false
set_option maxRecDepth 100000
abbrev wStop : Str := [115, 116, 111, 112]
abbrev wStart : Str := [115, 116, 97, 114, 116]
abbrev wKill : Str := [107, 105, 108, 108]
abbrev wKilled : Str := [107, 105, 108, 108, 101, 100]
def ctlR (p : api_Procs) (id : Int) (w : Str) : api_Procs × Int :=
 if w = wStop then setS p id 2 else if w = wStart then setS p id 1 else if w = wKill then exitS p id wKilled else (p, 54)
def fixS (p : api_Procs) (r : api_Procs × Int) : api_Procs × Int := if r.2 = 0 then (r.1, 0) else (p, r.2)
def ctlS (p : api_Procs) (user : Str) (id : Int) (ws : List Str) : api_Procs × Int :=
 if (findP p.L id).2 = false then (p, 42) else if (findP p.L id).1.User ≠ user then (p, 11) else match ws with
  | [w] => fixS p (ctlR p id w)
  | _ => (p, 54)
theorem ctl_K10 {p : api_Procs} (h : Mod p) (e : Int) (q : api_Procs) : procfs_Control_K10 p e q.Next q.Group q.L = some (fixS p (q, e)) := by
 unfold procfs_Control_K10 fixS
 rw [procfs_copied_eq h]
 by_cases h0 : e = 0
 ·simp [h0]
 ·simp [h0]
theorem procfs_Control_eq {p : api_Procs} (g : Good p) (user : Str) (id : Int) {line : Str} {ws : List Str} (hf : (findP p.L id).2 = true → (findP p.L id).1.User = user → num_Fields line = some ws) : procfs_Control p user id line = some (ctlS p user id ws) := by
 have h := g.mod
 unfold procfs_Control ctlS
 rw [proc_Find_eq h, Option.bind_some, procfs_copied_eq h]
 cases hfi : (findP p.L id).2 with
 | false => simp
 | true =>
  by_cases hu : (findP p.L id).1.User = user
  ·rw [hf hfi hu]
   cases ws with
   | nil => simp [hu]
   | cons w r =>
    cases r with
    | cons w2 r =>
     have h1 : ¬ ((List.length (w :: w2 :: r) : Int) = 1) := by simp; omega
     simp only [hu, Bool.not_true, Bool.false_eq_true, if_false, decide_true, Option.bind_some, decide_eq_false h1, Bool.not_false, if_true, reduceCtorEq, ne_eq, not_true_eq_false]
    | nil =>
     have h1 : (List.length [w] : Int) = 1 := rfl
     simp only [hu, Bool.not_true, Bool.false_eq_true, if_false, decide_true, Option.bind_some, decide_eq_true h1, reduceCtorEq, ne_eq, not_true_eq_false, lsAt0, proc_Set_eq h g.uniq, proc_Exit_eq h g.uniq g.parNe, ctl_K10 h]
     unfold ctlR
     by_cases a1 : w = wStop
     ·simp [a1]
     ·by_cases a2 : w = wStart
      ·simp [a1, a2]
      ·by_cases a3 : w = wKill
       ·simp [a1, a2, a3]
       ·simp [a1, a2, a3]
  ·simp [hu]
def trimS (s : Str) : Str := if s.getLast? = some 10 then s.dropLast else s
theorem strings_TrimSuffix_eq {s : Str} (h : s.length ≤ 100000) : strings_TrimSuffix s [10] = some (trimS s) := by
 unfold strings_TrimSuffix stringslite_TrimSuffix stringslite_HasSuffix trimS
 rcases List.eq_nil_or_concat s with rfl | ⟨a, c, rfl⟩
 ·simp
 ·rw [List.concat_eq_append] at *
  simp only [List.length_append, List.length_singleton] at h
  have h1 : ((List.length ([10] : Str) : Int) ≤ (List.length (a ++ [c]) : Int)) := by simp; omega
  have h2 : IntKind.wrap .i64 ((List.length (a ++ [c]) : Int) - (List.length ([10] : Str) : Int)) = ((a.length : Nat) : Int) := by
   rw [wrap64 (by simp) (by simp; omega)]; simp
  have h3 : cut (a ++ [c]) (a.length : Int) (List.length (a ++ [c]) : Int) = some [c] := by
   rw [cut_from (by simp)]; simp
  have h4 : cut (a ++ [c]) 0 (a.length : Int) = some a := by
   rw [cut_to (by simp)]; simp
  simp only [decide_eq_true h1, if_true, h2, h3, h4, Option.bind_some, List.getLast?_append, List.getLast?_singleton, List.dropLast_concat]
  by_cases hc : c = 10
  ·simp [hc]
  ·simp [hc]
def wrFix (p : api_Procs) (n : Int) (r : api_Procs × Int) : api_Procs × Int × Int := if r.2 = 0 then (r.1, n, 0) else (p, 0, r.2)
theorem wr_K8 {p : api_Procs} (h : Mod p) (data : Str) (e : Int) (q : api_Procs) : procfs_Write_K8 p data e q.Next q.Group q.L = some (wrFix p (List.length data : Int) (q, e)) := by
 unfold procfs_Write_K8 wrFix
 rw [procfs_copied_eq h]
 by_cases h0 : e = 0
 ·simp [h0]
 ·simp [h0]
def writeS (p : api_Procs) (user : Str) (id : Int) (data : Str) (ws : List Str) : api_Procs × Int × Int :=
 if (fileS p id).2.2 = false then (p, 0, 8) else if (fileS p id).2.1 = 0 then (p, 0, 10)
 else if (fileS p id).2.1 = 1 then wrFix p (List.length data : Int) (ctlS p user (fileS p id).1.Id ws)
 else if (fileS p id).2.1 = 3 ∧ (fileS p id).1.User = user then wrFix p (List.length data : Int) (noteS p (fileS p id).1.Id (trimS data))
 else (p, 0, 11)
theorem procfs_Write_eq {p : api_Procs} (g : Good p) (user : Str) {id : Int} (h0 : -9223372036854775808 ≤ id) (h1 : id ≤ 9223372036854775807) {data : Str} (hd : data.length ≤ 100000) {ws : List Str} (hf : (fileS p id).2.2 = true → (fileS p id).2.1 = 1 → (findP p.L (fileS p id).1.Id).2 = true → (findP p.L (fileS p id).1.Id).1.User = user → num_Fields (trimS data) = some ws) :
  procfs_Write p user id data = some (writeS p user id data ws) := by
 have h := g.mod
 unfold procfs_Write writeS
 rw [procfs_file_eq h h0 h1, Option.bind_some, procfs_copied_eq h, strings_TrimSuffix_eq hd]
 cases hfi : (fileS p id).2.2 with
 | false => simp
 | true =>
  by_cases a0 : (fileS p id).2.1 = 0
  ·simp [a0]
  ·simp only [Bool.not_true, Bool.false_eq_true, if_false, decide_eq_false a0, decide_false, Option.bind_some, reduceCtorEq, a0, proc_Note_eq h g.uniq, wr_K8 h]
   by_cases a1 : (fileS p id).2.1 = 1
   ·simp only [a1, decide_true, if_true, procfs_Control_eq g user _ (hf hfi a1), Option.bind_some, wr_K8 h]
   ·by_cases a3 : (fileS p id).2.1 = 3
    ·by_cases hu : (fileS p id).1.User = user
     ·simp [a3, hu]
     ·simp [a3, hu, wrFix]
    ·simp [a1, a3, wrFix]
end Go.Proofs.YtgmlbldjdhonjaaDoor
