import Derived.Test.YtgmlbldjdhonjaaGreatDoorQC
namespace Go.Proofs.YtgmlbldjdhonjaaGreatDoor
open Go.Vm
set_option autoImplicit false
set_option linter.unusedVariables false
set_option linter.unusedSimpArgs false
set_option maxRecDepth 100000
theorem ref31_SameProc_refl {x : api_Proc} (h1 : x.Notes.length ≤ 100000) (h2 : x.Waits.length ≤ 100000) : ref31_SameProc x x = some true := by
 have hm := m5
 have l1 : loopM (fun s => ref31_SameProc_L19 x x s) 0 = some (if x.Waits.all (fun _ => true) = true then true else false) := by
  refine loop_allF x.Waits (fun _ => true) _ _ _ (fun i hi => ?_) ?_
  ·unfold ref31_SameProc_L19
   have h1 : (i : Int) < (List.length x.Waits : Int) := by omega
   simp only [decide_eq_true h1, if_true, lsAt_nat hi, Option.bind_some, wrapNat hi (by omega)]
   simp
  ·unfold ref31_SameProc_L19
   simp
 have l2 : loopM (fun s => ref31_SameProc_L9 x x s) 0 = some (if x.Notes.all (fun _ => true) = true then true else false) := by
  refine loop_allF x.Notes (fun _ => true) _ _ _ (fun i hi => ?_) ?_
  ·unfold ref31_SameProc_L9
   have h1 : (i : Int) < (List.length x.Notes : Int) := by omega
   simp only [decide_eq_true h1, if_true, lsAt_nat hi, Option.bind_some, wrapNat hi (by omega)]
   simp
  ·unfold ref31_SameProc_L9
   rw [l1]
   simp
 unfold ref31_SameProc
 rw [l2]
 simp
theorem ref31_Same_refl {p : api_Procs} (h : Mod p) : ref31_Same p p = some true := by
 have hm := m5
 have hn := h.n
 have l1 : loopM (fun s => ref31_Same_L11 p p s) 0 = some (if p.L.all (fun _ => true) = true then true else false) := by
  refine loop_allF p.L (fun _ => true) _ _ _ (fun i hi => ?_) ?_
  ·unfold ref31_Same_L11
   have h1 : (i : Int) < (List.length p.L : Int) := by omega
   have he := h.e _ (List.getElem_mem hi)
   simp only [decide_eq_true h1, if_true, lsAt_nat hi, Option.bind_some, wrapNat hi (by omega), ref31_SameProc_refl he.1 he.2.1]
   simp
  ·unfold ref31_Same_L11
   simp
 unfold ref31_Same
 rw [l1]; simp
def smN (n : Str) : Bool := !decide (2000 < (List.length n : Int))
def smW (w : api_Wait) : Bool := !decide (2000 < (List.length w.Status : Int))
def bigX (x : api_Proc) : Bool := (decide (20 < (List.length x.Notes : Int))) || ((decide (70 < (List.length x.Waits : Int))) || ((decide (200 < (List.length x.User : Int))) || ((decide (2000 < (List.length x.Name : Int))) || ((decide (2000 < (List.length x.Cwd : Int))) || (decide (2000 < (List.length x.Status : Int)))))))
def smX (x : api_Proc) : Bool := !bigX x && (x.Notes.all smN && x.Waits.all smW)
def smallB (p : api_Procs) : Bool := !decide (70 < (List.length p.L : Int)) && p.L.all smX
theorem law31_slight_eq (x : api_Proc) : law31_slight x = some (smX x) := by
 have hm := m5
 unfold law31_slight
 show (if bigX x = true then _ else _) = _
 unfold smX
 cases hb : bigX x with
 | true => rfl
 | false =>
  have hb' := hb
  unfold bigX at hb'
  simp only [Bool.or_eq_false_iff, decide_eq_false_iff_not] at hb'
  obtain ⟨b1, b2, -⟩ := hb'
  simp only [Bool.false_eq_true, if_false, Bool.not_false, Bool.true_and]
  have lw : loopM (fun s => law31_slight_L20 x s) 0 = some (x.Waits.all smW) := by
   refine loop_all x.Waits smW _ (fun k hk => ?_) ?_
   ·unfold law31_slight_L20 smW
    have h1 : (k : Int) < (List.length x.Waits : Int) := by omega
    simp only [decide_eq_true h1, if_true, lsAt_nat hk, Option.bind_some, wrapNat hk (by omega)]
    cases decide (2000 < (List.length x.Waits[k].Status : Int)) <;> rfl
   ·unfold law31_slight_L20
    simp
  refine (loop_allF x.Notes smN false (x.Waits.all smW) _ (fun k hk => ?_) ?_).trans ?_
  ·unfold law31_slight_L12 smN
   have h1 : (k : Int) < (List.length x.Notes : Int) := by omega
   simp only [decide_eq_true h1, if_true, lsAt_nat hk, Option.bind_some, wrapNat hk (by omega)]
   cases decide (2000 < (List.length x.Notes[k] : Int)) <;> rfl
  ·unfold law31_slight_L12
   rw [lw]; simp
  ·cases x.Notes.all smN <;> rfl
theorem law31_small_eq (p : api_Procs) : law31_small p = some (smallB p) := by
 have hm := m5
 unfold law31_small smallB
 by_cases h : (70 : Int) < (List.length p.L : Int)
 ·simp [h]
 ·simp only [decide_eq_false h, Bool.false_eq_true, if_false, Bool.not_false, Bool.true_and]
  refine loop_all p.L smX _ (fun i hi => ?_) ?_
  ·unfold law31_small_L7
   have h1 : (i : Int) < (List.length p.L : Int) := by omega
   simp only [decide_eq_true h1, if_true, lsAt_nat hi, Option.bind_some, law31_slight_eq, wrapNat hi (by omega)]
   cases smX p.L[i] <;> rfl
  ·unfold law31_small_L7
   simp
theorem slight_len {x : api_Proc} (h : smX x = true) : x.Notes.length ≤ 20 ∧ x.Waits.length ≤ 70 ∧ x.User.length ≤ 200 ∧ x.Name.length ≤ 2000 ∧ x.Cwd.length ≤ 2000 := by
 unfold smX bigX at h
 simp only [Bool.and_eq_true, Bool.not_eq_true', Bool.or_eq_false_iff, decide_eq_false_iff_not] at h
 obtain ⟨⟨a1, a2, a3, a4, a5, a6⟩, -⟩ := h
 omega
theorem small_mod {p : api_Procs} (h : smallB p = true) : Mod p := by
 unfold smallB at h
 simp only [Bool.and_eq_true, Bool.not_eq_true', decide_eq_false_iff_not, List.all_eq_true] at h
 obtain ⟨h1, h2⟩ := h
 refine ⟨by omega, fun x hx => ?_⟩
 have h3 := slight_len (h2 x hx)
 omega
def tabN (u : Str) : api_Procs := api_Procs.mk 2 2 [(api_Proc.mk 1 0 1 u [] 1 1 1 [47] ([] : List Str) [] ([] : List api_Wait) false)]
def newS (u : Str) : api_Procs × Int := if userV u = true then (tabN u, 0) else (api_Procs.mk 0 0 [], 25)
theorem proc_New_eq {u : Str} (h : u.length ≤ maxLen) : proc_New u = some (newS u) := by
 unfold proc_New newS
 rw [user_Valid_eq h, Option.bind_some]
 cases userV u <;> rfl
theorem root_slash : rootC [47] = true := by decide +kernel
theorem good_new {u : Str} (h : userV u = true) : Good (tabN u) where
 n2 := by simp [tabN]
 inc := by simp [tabN]
 fst := ⟨_, _, rfl, rfl, rfl⟩
 lst := by simp [tabN]
 nx := by simp [tabN]
 g1 := by simp [tabN]
 g2 := by simp [tabN]
 par := by simp [tabN]
 fld := by
  intro x hx
  simp only [tabN, List.mem_singleton] at hx
  subst hx
  exact fld_iff.2 { st := rfl, us := h, nm := .inl rfl, cw := root_slash, stt := rfl, ns := by simp [tabN], en := by simp [tabN], fd := by simp [tabN], l1 := by simp, l2 := by simp, an := rfl, aw := rfl }
def ann : Str := [97, 110, 110]
theorem ann_ok : userV ann = true := by decide +kernel
def Q1 : api_Procs := (setS (tabN ann) 1 2).1
def Q2 : api_Procs := (setS Q1 1 1).1
theorem fields_of {s : Str} {r : List Str} (n : Nat) (h : iterN (fun x => num_Fields_L26 s x.1 x.2.1 x.2.2) n ((-1), 0, ([] : List Str)) = some r) : num_Fields s = some r := loopM_some.2 ⟨n, h⟩
theorem fields_stop : num_Fields wStop = some [wStop] := fields_of 5 (by decide +kernel)
theorem fields_start : num_Fields wStart = some [wStart] := fields_of 6 (by decide +kernel)
theorem law31_awake_true : law31_awake = some true := by
 have g0 : Good (tabN ann) := good_new ann_ok
 have e0 : proc_New [97, 110, 110] = some (tabN ann, 0) := by
  rw [proc_New_eq (by unfold maxLen; simp)]
  unfold newS
  rw [if_pos (show userV [97, 110, 110] = true from ann_ok)]; rfl
 have e1 : procfs_Status (api_Proc.mk 0 1 2 [97, 110, 110] [114, 99] 0 0 0 [] [] [] [] false) = some [114, 99, 32, 97, 110, 110, 32, 115, 116, 111, 112, 112, 101, 100, 32, 49, 10] := by
  rw [procfs_Status_eq (by simp) (by simp) (by simp)]
  have hi : Go.Lib.itoa 1 = [49] := by
   unfold Go.Lib.itoa
   rw [if_neg (by omega)]
   exact Go.Lib.decDigits_one (by decide)
  unfold statusS
  rw [hi]; rfl
 have e2 : procfs_Control (tabN ann) [98, 111, 98] 1 wStop = some (tabN ann, 11) := by
  rw [procfs_Control_eq g0 _ 1 fun _ _ => fields_stop]; rfl
 have e3 : procfs_Control (tabN ann) [97, 110, 110] 1 wStop = some (Q1, 0) := by
  rw [procfs_Control_eq g0 _ 1 fun _ _ => fields_stop]; rfl
 have g1 : Good Q1 := set_good g0 1 2
 have e4 : procfs_Write Q1 [97, 110, 110] 17 [115, 116, 97, 114, 116, 10] = some (Q2, 6, 0) := by
  rw [procfs_Write_eq g1 _ (id := 17) (by omega) (by omega) (data := [115, 116, 97, 114, 116, 10]) (by simp) (ws := [wStart]) fun _ _ _ _ => fields_start]; rfl
 have e5 : procfs_Walk (tabN ann) 1 [49] = some (16, 0) := by
  rw [procfs_Walk_eq g0 (by omega) (by omega)]
  have hi : nameS 16 = [49] := by
   have := nameS_proc (n := 1) (by omega)
   rw [show (16 : Int) * 1 = 16 by omega] at this
   rw [this]
   unfold Go.Lib.itoa
   rw [if_neg (by omega)]
   exact Go.Lib.decDigits_one (by decide)
  have hc : childS (tabN ann) 1 = [16] := rfl
  unfold walkS
  rw [hc]
  simp only [List.find?_cons, hi]; rfl
 have e6 : procfs_Open (tabN ann) [98, 111, 98] 18 0 = some 0 := by
  unfold procfs_Open
  rw [procfs_file_eq g0.mod (by omega) (by omega)]
  decide +kernel
 have e7 : procfs_Open (tabN ann) [98, 111, 98] 17 1 = some 11 := by
  unfold procfs_Open
  rw [procfs_file_eq g0.mod (by omega) (by omega)]
  decide +kernel
 have e8 : lsAt Q1.L 0 = some (api_Proc.mk 1 0 2 ann [] 1 1 1 [47] [] [] [] false) := rfl
 have e9 : lsAt Q2.L 0 = some (api_Proc.mk 1 0 1 ann [] 1 1 1 [47] [] [] [] false) := rfl
 have e10 : (List.length Q1.L : Int) = 1 := rfl
 have e11 : (List.length Q2.L : Int) = 1 := rfl
 unfold law31_awake
 rw [e0, Option.bind_some, e1]
 simp only [e2, e3, e4, e5, e6, e7, e8, e9, e10, e11, Option.bind_some]
 simp
end Go.Proofs.YtgmlbldjdhonjaaGreatDoor
