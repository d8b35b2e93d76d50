import Derived.Test.YtfaobpifaobobaaDoorPG
namespace Go.Proofs.YtfaobpifaobobaaDoor
open Go.Vm
set_option autoImplicit false
set_option linter.unusedVariables false
set_option linter.unusedSimpArgs false
set_option maxRecDepth 100000
theorem ref30_Equal_refl {x : api_Proc} (h1 : x.Notes.length ≤ 100000) (h2 : x.Waits.length ≤ 100000) : ref30_Equal x x = some true := by
 have hm := m5
 have l1 : loopM (fun s => ref30_Equal_L19 x x s) 0 = some (if x.Waits.all (fun _ => true) = true then true else false) := by
  refine loop_allF x.Waits (fun _ => true) _ _ _ (fun i hi => ?_) ?_
  ·unfold ref30_Equal_L19
   have h1 : (i : Int) < (List.length x.Waits : Int) := by omega
   simp only [decide_eq_true h1, if_true, lsAt_nat hi, Option.bind_some, wrapNat hi (by omega)]
   simp
  ·unfold ref30_Equal_L19
   simp
 have l2 : loopM (fun s => ref30_Equal_L9 x x s) 0 = some (if x.Notes.all (fun _ => true) = true then true else false) := by
  refine loop_allF x.Notes (fun _ => true) _ _ _ (fun i hi => ?_) ?_
  ·unfold ref30_Equal_L9
   have h1 : (i : Int) < (List.length x.Notes : Int) := by omega
   simp only [decide_eq_true h1, if_true, lsAt_nat hi, Option.bind_some, wrapNat hi (by omega)]
   simp
  ·unfold ref30_Equal_L9
   rw [l1]; simp
 unfold ref30_Equal
 rw [l2]; simp
theorem ref30_Same_refl {p : api_Procs} (h : Mod p) : ref30_Same p p = some true := by
 have hm := m5
 have hn := h.n
 have l1 : loopM (fun s => ref30_Same_L11 p p s) 0 = some (if p.L.all (fun _ => true) = true then true else false) := by
  refine loop_allF p.L (fun _ => true) _ _ _ (fun i hi => ?_) ?_
  ·unfold ref30_Same_L11
   have h1 : (i : Int) < (List.length p.L : Int) := by omega
   have he := h.e _ (List.getElem_mem hi)
   simp only [decide_eq_true h1, if_true, lsAt_nat hi, Option.bind_some, wrapNat hi (by omega), ref30_Equal_refl he.1 he.2.1]
   simp
  ·unfold ref30_Same_L11
   simp
 unfold ref30_Same
 rw [l1]; simp
def tabN (u : Str) : api_Procs := api_Procs.mk 2 2 [(api_Proc.mk 1 0 1 u [] 1 1 1 [47] ([] : List Str) [] ([] : List api_Wait) false)]
def newS (u : Str) : api_Procs × Int := if userV u = true then (tabN u, 0) else (api_Procs.mk 0 0 [], 25)
theorem proc_New_eq {u : Str} (h : u.length ≤ maxLen) : proc_New u = some (newS u) := by
 unfold proc_New newS
 rw [user_Valid_eq h, Option.bind_some]
 cases userV u <;> rfl
theorem root_slash : rootC [47] = true := by decide +kernel
theorem good_new {u : Str} (h : userV u = true) : Good (tabN u) where
 n2 := by simp [tabN]
 inc := by simp [tabN]
 fst := ⟨_, _, rfl, rfl, rfl⟩
 lst := by simp [tabN]
 nx := by simp [tabN]
 g1 := by simp [tabN]
 g2 := by simp [tabN]
 par := by simp [tabN]
 fld := by
  intro x hx
  simp only [tabN, List.mem_singleton] at hx
  subst hx
  exact fld_iff.2 { st := rfl, us := h, nm := .inl rfl, cw := root_slash, stt := rfl, ns := by simp [tabN], en := by simp [tabN], fd := by simp [tabN], l1 := by simp, l2 := by simp, an := rfl, aw := rfl }
def ann : Str := [97, 110, 110]
theorem ann_ok : userV ann = true := by decide +kernel
def T1 : api_Procs := (forkS (tabN ann) 1 5).1
def T2 : api_Procs := (exitS T1 2 [100, 111, 110, 101]).1
def T3 : api_Procs := (awaitS T2 1).1
theorem law30_awake_true : law30_awake = some true := by
 have g0 : Good (tabN ann) := good_new ann_ok
 have e0 : proc_New [97, 110, 110] = some (tabN ann, 0) := by
  rw [proc_New_eq (by unfold maxLen; simp)]
  unfold newS
  rw [if_pos (show userV [97, 110, 110] = true from ann_ok)]; rfl
 have e1 : proc_Await (tabN ann) 1 = some (tabN ann, api_Wait.mk 0 [], false, 42) := by
  rw [proc_Await_eq g0.mod g0.uniq]; rfl
 have g1 : Good T1 := fork_good g0 1 5
 have e2 : proc_Fork (tabN ann) 1 5 = some (T1, 2, 0) := by
  rw [proc_Fork_eq g0.mod g0 1 5 (by decide)]; rfl
 have e3 : proc_Find T1 2 = some (api_Proc.mk 2 1 1 ann [] 2 1 3 [47] [] [] [] false, true) := by
  rw [proc_Find_eq g1.mod]; rfl
 have e4 : proc_Await T1 1 = some (T1, api_Wait.mk 0 [], true, 0) := by
  rw [proc_Await_eq g1.mod g1.uniq]; rfl
 have g2 : Good T2 := exit_good g1 2
 have e5 : proc_Exit T1 2 [100, 111, 110, 101] = some (T2, 0) := by
  rw [proc_Exit_eq g1.mod g1.uniq g1.parNe]; rfl
 have g3 : Good T3 := await_good g2 1
 have e6 : proc_Await T2 1 = some (T3, api_Wait.mk 2 [100, 111, 110, 101], false, 0) := by
  rw [proc_Await_eq g2.mod g2.uniq]; rfl
 have e7 : proc_Right T3 = some true := by
  rw [proc_Right_eq g3.mod, rightB_iff.2 g3]
 have e8 : T3.L.length = 1 := by rfl
 unfold law30_awake
 rw [e0]
 simp only [e1, e2, e3, e4, e5, e6, e7, e8, Option.bind_some]
 simp
def smN (n : Str) : Bool := !decide (1100 < (List.length n : Int))
def smW (w : api_Wait) : Bool := !decide (1100 < (List.length w.Status : Int))
def bigX (x : api_Proc) : Bool := ((decide (100 < (List.length x.Notes : Int))) || ((decide (100 < (List.length x.Waits : Int))) || ((decide (1100 < (List.length x.User : Int))) || ((decide (1100 < (List.length x.Name : Int))) || ((decide (1100 < (List.length x.Cwd : Int))) || (decide (1100 < (List.length x.Status : Int))))))))
def smX (x : api_Proc) : Bool := !bigX x && (x.Notes.all smN && x.Waits.all smW)
def smallB (p : api_Procs) : Bool := !decide (70 < (List.length p.L : Int)) && p.L.all smX
theorem law30_small_eq (p : api_Procs) : law30_small p = some (smallB p) := by
 have hm := m5
 unfold law30_small smallB
 by_cases h : (70 : Int) < (List.length p.L : Int)
 ·simp [h]
 ·simp only [decide_eq_false h, Bool.false_eq_true, if_false, Bool.not_false, Bool.true_and]
  refine loop_all p.L smX _ (fun i hi => ?_) ?_
  ·unfold law30_small_L28
   have h1 : (i : Int) < (List.length p.L : Int) := by omega
   simp only [decide_eq_true h1, if_true, lsAt_nat hi, Option.bind_some]
   generalize hx : p.L[i] = x
   have hw := wrapNat hi (by omega)
   show (if bigX x = true then _ else _) = _
   unfold smX
   cases hb : bigX x with
   | true => simp
   | false =>
    have hb' := hb
    unfold bigX at hb'
    simp only [Bool.or_eq_false_iff, decide_eq_false_iff_not] at hb'
    obtain ⟨b1, b2, -⟩ := hb'
    simp only [Bool.false_eq_true, if_false, Bool.not_false, Bool.true_and]
    have lw : loopM (fun s => law30_small_L50 (i : Int) x s) 0 = some (if x.Waits.all smW = true then (.cont ((i : Int) + 1)) else (.done false)) := by
     refine loop_allF x.Waits smW _ _ _ (fun k hk => ?_) ?_
     ·unfold law30_small_L50 smW
      have h1 : (k : Int) < (List.length x.Waits : Int) := by omega
      simp only [decide_eq_true h1, if_true, lsAt_nat hk, Option.bind_some, wrapNat hk (by omega)]
      cases decide (1100 < (List.length x.Waits[k].Status : Int)) <;> rfl
     ·unfold law30_small_L50
      simp [hw]
    have ln : loopM (fun s => law30_small_L42 (i : Int) x s) 0 = some (if x.Notes.all smN = true then (if x.Waits.all smW = true then (.cont ((i : Int) + 1)) else (.done false)) else (.done false)) := by
     refine loop_allF x.Notes smN _ _ _ (fun k hk => ?_) ?_
     ·unfold law30_small_L42 smN
      have h1 : (k : Int) < (List.length x.Notes : Int) := by omega
      simp only [decide_eq_true h1, if_true, lsAt_nat hk, Option.bind_some, wrapNat hk (by omega)]
      cases decide (1100 < (List.length x.Notes[k] : Int)) <;> rfl
     ·unfold law30_small_L42
      rw [lw]; simp
    rw [ln]
    cases x.Notes.all smN <;> cases x.Waits.all smW <;> rfl
  ·unfold law30_small_L28
   simp
theorem small_mod {p : api_Procs} (h : smallB p = true) : Mod p := by
 unfold smallB at h
 simp only [Bool.and_eq_true, Bool.not_eq_true', decide_eq_false_iff_not, List.all_eq_true] at h
 obtain ⟨h1, h2⟩ := h
 refine ⟨by omega, fun x hx => ?_⟩
 have h3 := h2 x hx
 unfold smX bigX at h3
 simp only [Bool.and_eq_true, Bool.not_eq_true', Bool.or_eq_false_iff, decide_eq_false_iff_not] at h3
 obtain ⟨⟨a1, a2, a3, a4, a5, a6⟩, -⟩ := h3
 omega
def runS (p : api_Procs) (o : law30_Op) : api_Procs × law30_result :=
 if o.Kind = 1 then ((forkS p o.Id o.N).1, law30_result.mk (forkS p o.Id o.N).2.1 (api_Wait.mk 0 []) [] false (forkS p o.Id o.N).2.2 false)
 else if o.Kind = 2 then ((exitS p o.Id o.Text).1, law30_result.mk 0 (api_Wait.mk 0 []) [] false (exitS p o.Id o.Text).2 false)
 else if o.Kind = 3 then ((awaitS p o.Id).1, law30_result.mk 0 (awaitS p o.Id).2.1 [] (awaitS p o.Id).2.2.1 (awaitS p o.Id).2.2.2 false)
 else if o.Kind = 4 then ((noteS p o.Id o.Text).1, law30_result.mk 0 (api_Wait.mk 0 []) [] false (noteS p o.Id o.Text).2 false)
 else if o.Kind = 5 then ((takeS p o.Id).1, law30_result.mk 0 (api_Wait.mk 0 []) (takeS p o.Id).2.1 (takeS p o.Id).2.2.1 (takeS p o.Id).2.2.2 false)
 else if o.Kind = 6 then ((setS p o.Id o.N).1, law30_result.mk 0 (api_Wait.mk 0 []) [] false (setS p o.Id o.N).2 false)
 else ((cdS p o.Id o.Text).1, law30_result.mk 0 (api_Wait.mk 0 []) [] false (cdS p o.Id o.Text).2 false)
theorem wfI {n : Int} (h : (Lit.int .i64 n).wf = true) : -9223372036854775808 ≤ n ∧ n ≤ 9223372036854775807 := by
 have h2 : IntKind.i64.min ≤ n ∧ n ≤ IntKind.i64.max := by simpa [Lit.wf] using h
 exact h2
theorem run_good {p : api_Procs} (g : Good p) (o : law30_Op) : Good (runS p o).1 := by
 unfold runS
 split
 ·exact fork_good g _ _
 ·split
  ·exact exit_good g _
  ·split
   ·exact await_good g _
   ·split
    ·exact note_good g _ _
    ·split
     ·exact take_good g _
     ·split
      ·exact set_good g _ _
      ·exact cd_good g _ _
theorem did_eq {p : api_Procs} (g : Good p) {o : law30_Op} (hn : o.N ≤ 9223372036854775807) (ht : o.Text.length ≤ 100000) : law30_did p o = some (runS p o) := by
 have m := g.mod
 have u := g.uniq
 unfold law30_did runS law30_did_K1
 rw [proc_Fork_eq m g _ _ hn, proc_Exit_eq m u g.parNe, proc_Await_eq m u, proc_Note_eq m u, proc_Take_eq m u, proc_Set_eq m u, proc_Cd_eq m u _ ht]
 simp only [Option.bind_some, decide_eq_true_eq]
 repeat' (first | rfl | split)
theorem want_eq {p : api_Procs} (g : Good p) {o : law30_Op} (ht : o.Text.length ≤ 100000) : law30_want p o = some (runS p o) := by
 have m := g.mod
 unfold law30_want runS law30_want_K1
 rw [ref30_Fork_eq m g, ref30_Exit_eq m, ref30_Await_eq m, ref30_Note_eq m, ref30_Take_eq m, ref30_Set_eq m, ref30_Cd_eq m _ ht]
 simp only [Option.bind_some, decide_eq_true_eq]
 repeat' (first | rfl | split)
theorem law30_ProcCalls_true (p : api_Procs) (o : law30_Op) (w0 : wf_api_Procs p) (w1 : wf_law30_Op o) : law30_ProcCalls p o = some true := by
 unfold law30_ProcCalls
 rw [law30_awake_true, law30_small_eq, Option.bind_some]
 cases hs : smallB p with
 | false => rfl
 | true =>
  have h := small_mod hs
  by_cases ht : (1100 : Int) < (List.length o.Text : Int)
  ·simp [ht]
  ·rw [ref30_Right_eq h]
   cases hr : rightB p with
   | false => simp [ht]
   | true =>
    have g := rightB_iff.1 hr
    have g' := run_good g o
    rw [did_eq g (wfI w1.2.2.1).2 (by omega), want_eq g (by omega)]
    simp only [decide_eq_false ht, Bool.not_true, Bool.false_eq_true, if_false, Option.bind_some, ref30_Same_refl g'.mod, proc_Right_eq g'.mod, rightB_iff.2 g', if_true, decide_true, Bool.and_self]
end Go.Proofs.YtfaobpifaobobaaDoor
