import Derived.Test.YtgmlbldjdhonjaaGreatDoorQF
namespace Go.Proofs.YtgmlbldjdhonjaaGreatDoor
open Go.Vm
set_option autoImplicit false
set_option linter.unusedVariables false
set_option linter.unusedSimpArgs false
set_option maxRecDepth 100000
theorem ref31_changed_eq {p : api_Procs} (h : Mod p) (id n : Int) : ref31_changed p id n = some (fixS p (setS p id n)) := by
 unfold ref31_changed fixS
 rw [ref30_Set_eq h, Option.bind_some]
 by_cases h0 : (setS p id n).2 = 0
 ·simp [h0]
 ·simp [h0]
theorem ref31_Control_eq {p : api_Procs} (g : Good p) (user : Str) (id : Int) {line : Str} {ws : List Str} (hf : ref01_Fields line = some ws) : ref31_Control p user id line = some (ctlS p user id ws) := by
 have h := g.mod
 unfold ref31_Control ctlS
 rw [ref30_Find_eq h, Option.bind_some, hf]
 cases hfi : (findP p.L id).2 with
 | false => simp
 | true =>
  by_cases hu : (findP p.L id).1.User = user
  ·cases ws with
   | nil => simp [hu]
   | cons w r =>
    cases r with
    | cons w2 r =>
     have h1 : ¬ ((List.length (w :: w2 :: r) : Int) = 1) := by simp; omega
     simp only [hu, Bool.not_true, Bool.false_eq_true, if_false, decide_true, Option.bind_some, decide_eq_false h1, Bool.not_false, if_true, reduceCtorEq, ne_eq, not_true_eq_false]
    | nil =>
     have h1 : (List.length [w] : Int) = 1 := rfl
     simp only [hu, Bool.not_true, Bool.false_eq_true, if_false, decide_true, Option.bind_some, decide_eq_true h1, reduceCtorEq, ne_eq, not_true_eq_false, lsAt0, ref31_changed_eq h, ref30_Exit_eq h]
     unfold ctlR
     by_cases a1 : w = wStop
     ·simp [a1]
     ·by_cases a2 : w = wStart
      ·simp [a1, a2]
      ·by_cases a3 : w = wKill
       ·simp only [a3, decide_true, if_true]
        unfold fixS
        by_cases h0 : (exitS p id wKilled).2 = 0
        ·simp [h0]
        ·simp [h0]
       ·simp [a1, a2, a3, fixS]
  ·simp [hu]
theorem ref31_piece_eq {s : Str} {off cnt : Int} (h0 : 0 ≤ off) (h1 : 0 ≤ cnt) : ref31_piece s off cnt = some (pieceS s off cnt) := by
 unfold ref31_piece pieceS
 by_cases hl : (List.length s : Int) ≤ off
 ·have : s.drop off.toNat = [] := List.drop_of_length_le (by omega)
  simp [hl, this]
 ·have hc : cut s off (List.length s : Int) = some (s.drop off.toNat) := by
   have := cut_from (l := s) (a := off.toNat) (by omega)
   rw [show ((off.toNat : Nat) : Int) = off by omega] at this
   exact this
  simp only [decide_eq_false hl, Bool.false_eq_true, if_false, hc, Option.bind_some]
  by_cases hd : cnt < (List.length (s.drop off.toNat) : Int)
  ·have hc2 : cut (s.drop off.toNat) 0 cnt = some ((s.drop off.toNat).take cnt.toNat) := by
    have := cut_to (l := s.drop off.toNat) (b := cnt.toNat) (by omega)
    rw [show ((cnt.toNat : Nat) : Int) = cnt by omega] at this
    exact this
   simp only [decide_eq_true hd, if_true, hc2, Option.bind_some]
  ·simp only [decide_eq_false hd, Bool.false_eq_true, if_false]
   rw [List.take_of_length_le (by omega)]
theorem ref31_Read_eq {p : api_Procs} (g : Good p) {id : Int} (h0 : -9223372036854775808 ≤ id) (h1 : id ≤ 9223372036854775807) (off cnt : Int) : ref31_Read p id off cnt = some (readS p id off cnt) := by
 have h := g.mod
 unfold ref31_Read readS
 rw [ref31_exists_eq h h0 h1, Option.bind_some, ref31_directory_eq, Option.bind_some, div16 h0 h1, ref30_Find_eq h]
 rcases file_cases (p := p) (id := id) with hfi | ⟨rfl, hfi⟩ | ⟨h16, hn1, x, k, hx, hf, hk, hk0, hk5, hxi, hid, hfi⟩
 ·simp [hfi]
 ·simp [hfi]
 ·rw [hfi, hk, hf]
  simp only [decide_eq_false hn1, decide_eq_true h16, Bool.false_or, Bool.true_and, Bool.not_true, Bool.false_eq_true, if_false, reduceCtorEq, Option.bind_some, decide_eq_true_eq]
  by_cases a0 : k = 0
  ·simp [a0]
  ·by_cases ao : off < 0
   ·simp [a0, ao]
   ·by_cases ac : cnt < 0
    ·simp [a0, ac]
    ·have f := fld_iff.1 (g.fld _ hx)
     have n1 := name_len f
     have n2 := userV_len f.us
     have n3 := g.parR hx
     have hst := ref31_Status_eq (x := x) (by omega) (by omega) ⟨by omega, by omega⟩
     have p1 := ref31_piece_eq (s := statusS x) (off := off) (cnt := min cnt 65536) (by omega) (by omega)
     have p2 := ref31_piece_eq (s := x.Cwd) (off := off) (cnt := min cnt 65536) (by omega) (by omega)
     have k14 : ∀ b : Bool, ref31_Read_K14 p id cnt b = if b = true then some (p, [], false, 0) else some (if (awaitS p x.Id).2.2.2 ≠ 0 ∨ (awaitS p x.Id).2.2.1 = true then (p, [], ((awaitS p x.Id).2.2.1 && decide ((awaitS p x.Id).2.2.2 = 0)), (awaitS p x.Id).2.2.2) else ((awaitS p x.Id).1, pieceS (waitT (awaitS p x.Id).2.1) 0 (min cnt 65536), false, 0)) := fun b => by
      unfold ref31_Read_K14
      cases b with
      | true => rfl
      | false =>
       rw [div16 h0 h1, ← hxi, ref30_Await_eq h, Option.bind_some]
       simp only [Bool.false_eq_true, if_false]
       by_cases hb : (awaitS p x.Id).2.2.2 ≠ 0 ∨ (awaitS p x.Id).2.2.1 = true
       ·have hb' : ((!decide ((awaitS p x.Id).2.2.2 = 0)) || (awaitS p x.Id).2.2.1) = true := by
         rcases hb with hb | hb
         ·simp [hb]
         ·simp [hb]
        rw [if_pos hb, if_pos hb']
       ·have hb' : ¬ (((!decide ((awaitS p x.Id).2.2.2 = 0)) || (awaitS p x.Id).2.2.1) = true) := by
         intro e; apply hb
         simp only [Bool.or_eq_true, Bool.not_eq_true', decide_eq_false_iff_not] at e
         exact e
        have hw := await_w g x.Id hb
        have hwl := waitT_len g.nx hw
        have hnx := g.nx
        rw [if_neg hb, if_neg hb']
        generalize (awaitS p x.Id).2.1 = w at hw hwl ⊢
        have hw2 := hw
        unfold waitB at hw2
        simp only [Bool.and_eq_true, decide_eq_true_eq] at hw2
        have hil := itoa_len (n := w.Id) (by omega) (by omega)
        have p3 := ref31_piece_eq (s := waitT w) (off := 0) (cnt := min cnt 65536) (by omega) (by omega)
        unfold waitT at p3 ⊢
        rw [ref01_Text_eq (by omega) (by omega), Option.bind_some, catS_small (by simp; omega), Option.bind_some, catS_small (by simp; omega), Option.bind_some, catS_small (by simp; omega), Option.bind_some, p3, Option.bind_some]
     have hna : ¬ (off < 0 ∨ cnt < 0) := by omega
     simp only [decide_eq_false a0, Bool.false_eq_true, if_false, decide_eq_false ao, decide_eq_false ac, Bool.or_self, a0, hna, hst, p1, p2, Option.bind_some, k14, decide_eq_true_eq]
     by_cases a2 : k = 2
     ·simp only [a2, decide_true, if_true]
     ·by_cases a5 : k = 5
      ·simp [a5]
      ·by_cases a4 : k = 4
       ·simp [a4]
       ·have a13 : k = 1 ∨ k = 3 := by omega
        rcases a13 with a1 | a3
        ·simp [a1]
        ·simp [a3]
theorem ref31_command_eq {s : Str} (h : s.length ≤ 100000) : ref31_command s = some (trimS s) := by
 unfold ref31_command trimS
 rcases List.eq_nil_or_concat s with rfl | ⟨a, c, rfl⟩
 ·simp
 ·rw [List.concat_eq_append] at *
  simp only [List.length_append, List.length_singleton] at h
  have hw : IntKind.wrap .i64 ((List.length (a ++ [c]) : Int) - 1) = ((a.length : Nat) : Int) := by
   rw [wrap64 (by simp <;> omega) (by simp <;> omega)]; simp
  have h1 : (0 : Int) < (List.length (a ++ [c]) : Int) := by simp <;> omega
  have h2 : strAt (a ++ [c]) (a.length : Int) = some c := by
   rw [strAt_nat (by simp)]; simp
  have h4 : cut (a ++ [c]) 0 (a.length : Int) = some a := by
   rw [cut_to (by simp)]; simp
  simp only [decide_eq_true h1, if_true, hw, h2, h4, Option.bind_some, List.getLast?_append, List.getLast?_singleton, List.dropLast_concat, Option.some_or]
  have hc := isC c 10
  rw [show (((10 : UInt8).toNat : Nat) : Int) = 10 from rfl] at hc
  rw [hc]
  by_cases h10 : c = 10
  ·simp [h10]
  ·simp [h10]
theorem ref31_Write_eq {p : api_Procs} (g : Good p) (user : Str) {id : Int} (h0 : -9223372036854775808 ≤ id) (h1 : id ≤ 9223372036854775807) {data : Str} (hd : data.length ≤ 100000) : ref31_Write p user id data = some (writeS p user id data (fieldsS data)) := by
 have h := g.mod
 have k6 : ∀ (e : Int) (q : api_Procs), ref31_Write_K6 p data e q = some (wrFix p (List.length data : Int) (q, e)) := fun e q => by
  unfold ref31_Write_K6 wrFix
  by_cases h0 : e = 0
  ·simp [h0]
  ·simp [h0]
 unfold ref31_Write writeS
 rw [ref31_exists_eq h h0 h1, Option.bind_some, ref31_directory_eq, Option.bind_some, div16 h0 h1, ref30_Find_eq h, ref31_Control_eq g user _ (ref01_Fields_eq hd), ref31_command_eq hd]
 rcases file_cases (p := p) (id := id) with hfi | ⟨rfl, hfi⟩ | ⟨h16, hn1, x, k, hx, hf, hk, hk0, hk5, hxi, hid, hfi⟩
 ·simp [hfi]
 ·simp [hfi]
 ·rw [hfi, hk, hf, ← hxi]
  by_cases a0 : k = 0
  ·simp [a0, h16, hn1]
  ·by_cases a1 : k = 1
   ·simp [a1, hn1, k6, ref30_Note_eq h]
   ·by_cases a3 : k = 3
    ·by_cases hu : x.User = user
     ·simp [a3, hn1, hu, k6, ref30_Note_eq h]
     ·simp [a3, hn1, hu, k6, wrFix]
    ·simp [a0, a1, a3, hn1, k6, wrFix]
def callS (p : api_Procs) (o : law31_Op) : api_Procs × law31_Out :=
 if o.Kind = 1 then ((ctlS p o.User o.Id (fieldsS o.Text)).1, law31_Out.mk 0 [] false (ctlS p o.User o.Id (fieldsS o.Text)).2)
 else if o.Kind = 2 then ((readS p o.Id o.Offset o.Count).1, law31_Out.mk 0 (readS p o.Id o.Offset o.Count).2.1 (readS p o.Id o.Offset o.Count).2.2.1 (readS p o.Id o.Offset o.Count).2.2.2)
 else if o.Kind = 3 then ((writeS p o.User o.Id o.Text (fieldsS o.Text)).1, law31_Out.mk (writeS p o.User o.Id o.Text (fieldsS o.Text)).2.1 [] false (writeS p o.User o.Id o.Text (fieldsS o.Text)).2.2)
 else (p, law31_Out.mk 0 [] false 0)
theorem law31_did_eq {p : api_Procs} (g : Good p) (o : law31_Op) (h0 : -9223372036854775808 ≤ o.Id) (h1 : o.Id ≤ 9223372036854775807) (hd : o.Text.length ≤ 100000) : law31_did p o = some (callS p o) := by
 have ht : (trimS o.Text).length ≤ 100000 := by
  unfold trimS
  split
  ·simp; omega
  ·exact hd
 unfold law31_did law31_did_K1 callS
 rw [procfs_Control_eq g o.User o.Id (fun _ _ => num_Fields_eq hd), procfs_Read_eq g h0 h1, procfs_Write_eq g o.User h0 h1 hd (ws := fieldsS o.Text) (fun _ _ _ _ => by rw [num_Fields_eq ht, fields_trim])]
 by_cases k1 : o.Kind = 1
 ·simp [k1]
 ·by_cases k2 : o.Kind = 2
  ·simp [k2]
  ·by_cases k3 : o.Kind = 3
   ·simp [k3]
   ·simp [k1, k2, k3]
theorem law31_want_eq {p : api_Procs} (g : Good p) (o : law31_Op) (h0 : -9223372036854775808 ≤ o.Id) (h1 : o.Id ≤ 9223372036854775807) (hd : o.Text.length ≤ 100000) : law31_want p o = some (callS p o) := by
 unfold law31_want law31_want_K1 callS
 rw [ref31_Control_eq g o.User o.Id (ref01_Fields_eq hd), ref31_Read_eq g h0 h1, ref31_Write_eq g o.User h0 h1 hd]
 by_cases k1 : o.Kind = 1
 ·simp [k1]
 ·by_cases k2 : o.Kind = 2
  ·simp [k2]
  ·by_cases k3 : o.Kind = 3
   ·simp [k3]
   ·simp [k1, k2, k3]
theorem wr_good {p : api_Procs} {n : Int} {r : api_Procs × Int} (g : Good p) (h : Good r.1) : Good (wrFix p n r).1 := by
 unfold wrFix
 split
 ·exact h
 ·exact g
theorem call_good {p : api_Procs} (g : Good p) (o : law31_Op) : Good (callS p o).1 := by
 unfold callS
 split
 ·exact ctl_good g _ _ _
 ·split
  ·unfold readS
   repeat' split
   all_goals first | exact g | exact await_good g _
  ·split
   ·unfold writeS
    repeat' split
    all_goals first | exact g | exact wr_good g (ctl_good g _ _ _) | exact wr_good g (note_good g _ _)
   ·exact g
theorem law31_ProcfsCalls_true (p : api_Procs) (o : law31_Op) (w0 : wf_api_Procs p) (w1 : wf_law31_Op o) : law31_ProcfsCalls p o = some true := by
 obtain ⟨i0, i1⟩ := wfI w1.2.2.1
 unfold law31_ProcfsCalls
 rw [law31_awake_true, law31_small_eq, Option.bind_some]
 cases hs : smallB p with
 | false => rfl
 | true =>
  have h := small_mod hs
  rw [ref30_Right_eq h]
  by_cases ht : (5000 : Int) < (List.length o.Text : Int)
  ·simp [ht]
  by_cases hu : (200 : Int) < (List.length o.User : Int)
  ·simp [ht, hu]
  cases hr : rightB p with
  | false => simp [ht, hu]
  | true =>
   have g := rightB_iff.1 hr
   have gc := call_good g o
   simp only [Bool.not_true, Bool.false_eq_true, if_false, decide_eq_false ht, decide_eq_false hu, Option.bind_some, law31_did_eq g o i0 i1 (by omega), law31_want_eq g o i0 i1 (by omega), decide_true, Bool.and_self, Bool.and_true, if_true, ref31_Same_refl gc.mod, proc_Right_eq gc.mod, rightB_iff.2 gc]
end Go.Proofs.YtgmlbldjdhonjaaGreatDoor
