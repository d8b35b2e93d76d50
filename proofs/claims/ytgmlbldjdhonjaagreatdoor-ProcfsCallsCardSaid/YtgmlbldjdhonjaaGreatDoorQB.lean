import Derived.Test.YtgmlbldjdhonjaaGreatDoorQA
import Derived.Test.YtgmlbldjdhonjaaGreatDoorPG
namespace Go.Proofs.YtgmlbldjdhonjaaGreatDoor
open Go.Vm
set_option autoImplicit false
set_option linter.unusedVariables false
set_option linter.unusedSimpArgs false
set_option maxRecDepth 100000
abbrev wStop : Str := [115, 116, 111, 112]
abbrev wStart : Str := [115, 116, 97, 114, 116]
abbrev wKill : Str := [107, 105, 108, 108]
abbrev wKilled : Str := [107, 105, 108, 108, 101, 100]
def ctlR (p : api_Procs) (id : Int) (w : Str) : api_Procs × Int :=
 if w = wStop then setS p id 2 else if w = wStart then setS p id 1 else if w = wKill then exitS p id wKilled else (p, 54)
def fixS (p : api_Procs) (r : api_Procs × Int) : api_Procs × Int := if r.2 = 0 then (r.1, 0) else (p, r.2)
def ctlS (p : api_Procs) (user : Str) (id : Int) (ws : List Str) : api_Procs × Int :=
 if (findP p.L id).2 = false then (p, 42) else if (findP p.L id).1.User ≠ user then (p, 11) else match ws with
  | [w] => fixS p (ctlR p id w)
  | _ => (p, 54)
theorem ctl_K10 {p : api_Procs} (h : Mod p) (e : Int) (q : api_Procs) : procfs_Control_K10 p e q.Next q.Group q.L = some (fixS p (q, e)) := by
 unfold procfs_Control_K10 fixS
 rw [procfs_copied_eq h]
 by_cases h0 : e = 0
 ·simp [h0]
 ·simp [h0]
theorem procfs_Control_eq {p : api_Procs} (g : Good p) (user : Str) (id : Int) {line : Str} {ws : List Str} (hf : (findP p.L id).2 = true → (findP p.L id).1.User = user → num_Fields line = some ws) : procfs_Control p user id line = some (ctlS p user id ws) := by
 have h := g.mod
 unfold procfs_Control ctlS
 rw [proc_Find_eq h, Option.bind_some, procfs_copied_eq h]
 cases hfi : (findP p.L id).2 with
 | false => simp
 | true =>
  by_cases hu : (findP p.L id).1.User = user
  ·rw [hf hfi hu]
   cases ws with
   | nil => simp [hu]
   | cons w r =>
    cases r with
    | cons w2 r =>
     have h1 : ¬ ((List.length (w :: w2 :: r) : Int) = 1) := by simp; omega
     simp only [hu, Bool.not_true, Bool.false_eq_true, if_false, decide_true, Option.bind_some, decide_eq_false h1, Bool.not_false, if_true, reduceCtorEq, ne_eq, not_true_eq_false]
    | nil =>
     have h1 : (List.length [w] : Int) = 1 := rfl
     simp only [hu, Bool.not_true, Bool.false_eq_true, if_false, decide_true, Option.bind_some, decide_eq_true h1, reduceCtorEq, ne_eq, not_true_eq_false, lsAt0, proc_Set_eq h g.uniq, proc_Exit_eq h g.uniq g.parNe, ctl_K10 h]
     unfold ctlR
     by_cases a1 : w = wStop
     ·simp [a1]
     ·by_cases a2 : w = wStart
      ·simp [a1, a2]
      ·by_cases a3 : w = wKill
       ·simp [a1, a2, a3]
       ·simp [a1, a2, a3]
  ·simp [hu]
theorem fix_good {p : api_Procs} {r : api_Procs × Int} (g : Good p) (h : Good r.1) : Good (fixS p r).1 := by
 unfold fixS
 split
 ·exact h
 ·exact g
theorem ctl_good {p : api_Procs} (g : Good p) (user : Str) (id : Int) (ws : List Str) : Good (ctlS p user id ws).1 := by
 unfold ctlS
 split
 ·exact g
 ·split
  ·exact g
  ·split
   ·refine fix_good g ?_
    unfold ctlR
    split
    ·exact set_good g _ _
    ·split
     ·exact set_good g _ _
     ·split
      ·exact exit_good g _
      ·exact g
   ·exact g
def trimS (s : Str) : Str := if s.getLast? = some 10 then s.dropLast else s
theorem strings_TrimSuffix_eq {s : Str} (h : s.length ≤ 100000) : strings_TrimSuffix s [10] = some (trimS s) := by
 unfold strings_TrimSuffix stringslite_TrimSuffix stringslite_HasSuffix trimS
 rcases List.eq_nil_or_concat s with rfl | ⟨a, c, rfl⟩
 ·simp
 ·rw [List.concat_eq_append] at *
  simp only [List.length_append, List.length_singleton] at h
  have h1 : ((List.length ([10] : Str) : Int) ≤ (List.length (a ++ [c]) : Int)) := by simp; omega
  have h2 : IntKind.wrap .i64 ((List.length (a ++ [c]) : Int) - (List.length ([10] : Str) : Int)) = ((a.length : Nat) : Int) := by
   rw [wrap64 (by simp) (by simp; omega)]; simp
  have h3 : cut (a ++ [c]) (a.length : Int) (List.length (a ++ [c]) : Int) = some [c] := by
   rw [cut_from (by simp)]; simp
  have h4 : cut (a ++ [c]) 0 (a.length : Int) = some a := by
   rw [cut_to (by simp)]; simp
  simp only [decide_eq_true h1, if_true, h2, h3, h4, Option.bind_some, List.getLast?_append, List.getLast?_singleton, List.dropLast_concat]
  by_cases hc : c = 10
  ·simp [hc]
  ·simp [hc]
def wrFix (p : api_Procs) (n : Int) (r : api_Procs × Int) : api_Procs × Int × Int := if r.2 = 0 then (r.1, n, 0) else (p, 0, r.2)
theorem wr_K8 {p : api_Procs} (h : Mod p) (data : Str) (e : Int) (q : api_Procs) : procfs_Write_K8 p data e q.Next q.Group q.L = some (wrFix p (List.length data : Int) (q, e)) := by
 unfold procfs_Write_K8 wrFix
 rw [procfs_copied_eq h]
 by_cases h0 : e = 0
 ·simp [h0]
 ·simp [h0]
def writeS (p : api_Procs) (user : Str) (id : Int) (data : Str) (ws : List Str) : api_Procs × Int × Int :=
 if (fileS p id).2.2 = false then (p, 0, 8) else if (fileS p id).2.1 = 0 then (p, 0, 10)
 else if (fileS p id).2.1 = 1 then wrFix p (List.length data : Int) (ctlS p user (fileS p id).1.Id ws)
 else if (fileS p id).2.1 = 3 ∧ (fileS p id).1.User = user then wrFix p (List.length data : Int) (noteS p (fileS p id).1.Id (trimS data))
 else (p, 0, 11)
theorem procfs_Write_eq {p : api_Procs} (g : Good p) (user : Str) {id : Int} (h0 : -9223372036854775808 ≤ id) (h1 : id ≤ 9223372036854775807) {data : Str} (hd : data.length ≤ 100000) {ws : List Str} (hf : (fileS p id).2.2 = true → (fileS p id).2.1 = 1 → (findP p.L (fileS p id).1.Id).2 = true → (findP p.L (fileS p id).1.Id).1.User = user → num_Fields (trimS data) = some ws) :
  procfs_Write p user id data = some (writeS p user id data ws) := by
 have h := g.mod
 unfold procfs_Write writeS
 rw [procfs_file_eq h h0 h1, Option.bind_some, procfs_copied_eq h, strings_TrimSuffix_eq hd]
 cases hfi : (fileS p id).2.2 with
 | false => simp
 | true =>
  by_cases a0 : (fileS p id).2.1 = 0
  ·simp [a0]
  ·simp only [Bool.not_true, Bool.false_eq_true, if_false, decide_eq_false a0, decide_false, Option.bind_some, reduceCtorEq, a0, proc_Note_eq h g.uniq, wr_K8 h]
   by_cases a1 : (fileS p id).2.1 = 1
   ·simp only [a1, decide_true, if_true, procfs_Control_eq g user _ (hf hfi a1), Option.bind_some, wr_K8 h]
   ·by_cases a3 : (fileS p id).2.1 = 3
    ·by_cases hu : (fileS p id).1.User = user
     ·simp [a3, hu]
     ·simp [a3, hu, wrFix]
    ·simp [a1, a3, wrFix]
def pieceS (s : Str) (off cnt : Int) : Str := (s.drop off.toNat).take cnt.toNat
theorem procfs_slice_eq {s : Str} (hs : s.length ≤ 1000000) {off cnt : Int} (h0 : 0 ≤ off) (h1 : 0 ≤ cnt) (h2 : cnt ≤ 1000000) : procfs_slice s off cnt = some (pieceS s off cnt) := by
 unfold procfs_slice pieceS
 by_cases hl : (List.length s : Int) ≤ off
 ·have : s.drop off.toNat = [] := List.drop_of_length_le (by omega)
  simp [hl, this]
 ·have e1 : IntKind.wrap .i64 ((List.length s : Int) - off) = (List.length s : Int) - off := wrap64 (by omega) (by omega)
  rw [e1]
  have e2 : IntKind.wrap .i64 (off + min cnt ((List.length s : Int) - off)) = ((off.toNat + min cnt.toNat (s.length - off.toNat) : Nat) : Int) := by
   rw [wrap64 (by omega) (by omega)]; omega
  rw [e2, show off = ((off.toNat : Nat) : Int) by omega]
  have e3 := cut_nat (l := s) (a := off.toNat) (b := off.toNat + min cnt.toNat (s.length - off.toNat)) (by omega) (by omega)
  have hl' : ¬ ((List.length s : Int) ≤ ((off.toNat : Nat) : Int)) := by omega
  simp only [decide_eq_false hl', Bool.false_eq_true, if_false]
  rw [Int.toNat_natCast, e3, Option.bind_some, List.drop_take]
  congr 1
  rw [Nat.add_sub_cancel_left]
  rcases Nat.le_total cnt.toNat (s.length - off.toNat) with hc | hc
  ·rw [Nat.min_eq_left hc]
  ·rw [Nat.min_eq_right hc, List.take_of_length_le (by simp), List.take_of_length_le (by simp; omega)]
def waitT (w : api_Wait) : Str := Go.Lib.itoa w.Id ++ [32] ++ w.Status ++ [10]
def readS (p : api_Procs) (id off cnt : Int) : api_Procs × Str × Bool × Int :=
 if (fileS p id).2.2 = false then (p, [], false, 8) else if (fileS p id).2.1 = 0 then (p, [], false, 10) else if off < 0 ∨ cnt < 0 then (p, [], false, 1)
 else if (fileS p id).2.1 = 2 then (p, pieceS (statusS (fileS p id).1) off (min cnt 65536), false, 0)
 else if (fileS p id).2.1 = 5 then (p, pieceS (fileS p id).1.Cwd off (min cnt 65536), false, 0)
 else if (fileS p id).2.1 = 4 then
  (if (awaitS p (fileS p id).1.Id).2.2.2 ≠ 0 ∨ (awaitS p (fileS p id).1.Id).2.2.1 = true then (p, [], ((awaitS p (fileS p id).1.Id).2.2.1 && decide ((awaitS p (fileS p id).1.Id).2.2.2 = 0)), (awaitS p (fileS p id).1.Id).2.2.2)
   else ((awaitS p (fileS p id).1.Id).1, pieceS (waitT (awaitS p (fileS p id).1.Id).2.1) 0 (min cnt 65536), false, 0))
 else (p, [], false, 0)
theorem Good.parR {p : api_Procs} (g : Good p) {x : api_Proc} (hx : x ∈ p.L) : 0 ≤ x.Parent ∧ x.Parent ≤ 1048576 := by
 by_cases h1 : x.Id = 1
 ·obtain ⟨y, r, hl, hy1, hy2⟩ := g.fst
  have : x = y := g.one hx (by rw [hl]; simp) (by rw [h1, hy1])
  rw [this, hy2]; omega
 ·obtain ⟨y, hy, h2, h3⟩ := g.par x hx h1
  have := g.ge1 hy
  have := g.lst x hx
  have := g.nx
  omega
theorem name_len {x : api_Proc} {p : api_Procs} (f : Fld p x) : x.Name.length ≤ 64 := by
 rcases f.nm with h | h
 ·rw [h]; simp
 ·exact validN_len h
theorem await_w {p : api_Procs} (g : Good p) (id : Int) (h : ¬ ((awaitS p id).2.2.2 ≠ 0 ∨ (awaitS p id).2.2.1 = true)) : waitB p.Next (awaitS p id).2.1 = true := by
 unfold awaitS at h ⊢
 cases hf : (findP p.L id).2 with
 | false => rw [hf] at h; simp at h
 | true =>
  rw [hf] at h
  have f := fld_iff.1 (g.fld _ (find_mem hf).1)
  cases hw : (findP p.L id).1.Waits with
  | nil =>
   simp only [hw, reduceCtorEq, if_false] at h
   split at h <;> simp at h
  | cons w r =>
   have := f.aw
   rw [hw] at this
   simp only [reduceCtorEq, if_false]
   exact List.all_eq_true.1 this w (by simp)
theorem statusS_len {x : api_Proc} {p : api_Procs} (g : Good p) (hx : x ∈ p.L) : (statusS x).length ≤ 1000 := by
 have f := fld_iff.1 (g.fld _ hx)
 have h1 := name_len f
 have h2 := userV_len f.us
 have h3 := stateW_len x.State
 have h4 := g.parR hx
 have h5 := itoa_len (n := x.Parent) (by omega) (by omega)
 unfold statusS
 simp only [List.length_append, List.length_singleton]
 omega
theorem waitT_len {w : api_Wait} {nx : Int} (hn : nx ≤ 1048576) (h : waitB nx w = true) : (waitT w).length ≤ 2000 := by
 unfold waitB at h
 simp only [Bool.and_eq_true, decide_eq_true_eq] at h
 have h5 := itoa_len (n := w.Id) (by omega) (by omega)
 unfold waitT
 simp only [List.length_append, List.length_singleton]
 omega
theorem procfs_Read_eq {p : api_Procs} (g : Good p) {id : Int} (h0 : -9223372036854775808 ≤ id) (h1 : id ≤ 9223372036854775807) (off cnt : Int) : procfs_Read p id off cnt = some (readS p id off cnt) := by
 have h := g.mod
 unfold procfs_Read readS
 rw [procfs_file_eq h h0 h1, Option.bind_some, procfs_copied_eq h, proc_Await_eq h g.uniq]
 rcases file_cases (p := p) (id := id) with hfi | ⟨_, hfi⟩ | ⟨_, _, x, k, hx, _, _, hk0, hk5, _, _, hfi⟩
 ·simp [hfi]
 ·simp [hfi]
 ·rw [hfi]
  simp only [Bool.not_true, Bool.false_eq_true, if_false, Option.bind_some, reduceCtorEq]
  by_cases a0 : k = 0
  ·simp [a0]
  ·by_cases ao : off < 0
   ·simp [a0, ao]
   ·by_cases ac : cnt < 0
    ·simp [a0, ac]
    ·have f := fld_iff.1 (g.fld _ hx)
     have n1 := name_len f
     have n2 := userV_len f.us
     have n3 := g.parR hx
     have n4 := rootC_len f.cw
     have hst := procfs_Status_eq (x := x) (by omega) (by omega) ⟨by omega, by omega⟩
     have hsl := statusS_len g hx
     have p1 := procfs_slice_eq (s := statusS x) (off := off) (cnt := min cnt 65536) (by omega) (by omega) (by omega) (by omega)
     have p2 := procfs_slice_eq (s := x.Cwd) (off := off) (cnt := min cnt 65536) (by omega) (by omega) (by omega) (by omega)
     simp only [decide_eq_false a0, decide_eq_false ao, decide_eq_false ac, Bool.or_self, Bool.false_eq_true, if_false, a0, ao, ac, or_self, hst, p1, p2, Option.bind_some, decide_eq_true_eq]
     by_cases a2 : k = 2
     ·simp only [a2, if_true]
     ·by_cases a5 : k = 5
      ·simp only [a5, if_true, if_false, show ¬ ((5 : Int) = 2) by omega]
      ·by_cases a4 : k = 4
       ·simp only [a4, if_true, if_false, show ¬ ((4 : Int) = 2) by omega, show ¬ ((4 : Int) = 5) by omega]
        by_cases hb : (awaitS p x.Id).2.2.2 ≠ 0 ∨ (awaitS p x.Id).2.2.1 = true
        ·have hb' : ((!decide ((awaitS p x.Id).2.2.2 = 0)) || (awaitS p x.Id).2.2.1) = true := by
          rcases hb with hb | hb
          ·simp [hb]
          ·simp [hb]
         rw [if_pos hb, if_pos hb']
        ·have hb' : ¬ (((!decide ((awaitS p x.Id).2.2.2 = 0)) || (awaitS p x.Id).2.2.1) = true) := by
          intro e; apply hb
          simp only [Bool.or_eq_true, Bool.not_eq_true', decide_eq_false_iff_not] at e
          exact e
         have hw := await_w g x.Id hb
         have hwl := waitT_len g.nx hw
         have hnx := g.nx
         rw [if_neg hb, if_neg hb']
         generalize (awaitS p x.Id).2.1 = w at hw hwl ⊢
         have hw2 := hw
         unfold waitB at hw2
         simp only [Bool.and_eq_true, decide_eq_true_eq] at hw2
         have hil := itoa_len (n := w.Id) (by omega) (by omega)
         have p3 := procfs_slice_eq (s := waitT w) (off := 0) (cnt := min cnt 65536) (by omega) (by omega) (by omega) (by omega)
         unfold waitT at p3 ⊢
         rw [num_Text_eq (by omega) (by omega), Option.bind_some, catS_small (by simp; omega), Option.bind_some, catS_small (by simp; omega), Option.bind_some, catS_small (by simp; omega), Option.bind_some, p3, Option.bind_some]
       ·simp only [a2, a5, a4, if_false]
end Go.Proofs.YtgmlbldjdhonjaaGreatDoor
