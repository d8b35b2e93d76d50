/- The laws. -/
import Derived.Test.YtfaobpifaobobaaDoorPG
namespace Go.Proofs.YtfaobpifaobobaaDoor
open Go.Vm
set_option autoImplicit false
set_option linter.unusedVariables false
set_option linter.unusedSimpArgs false
set_option maxRecDepth 100000

/-! ### equality of tables -/
theorem ref30_Equal_refl {x : api_Proc} (h1 : x.Notes.length ≤ 100000) (h2 : x.Waits.length ≤ 100000) : ref30_Equal x x = some true := by
  have hm := m5
  have l1 : loopM (fun s => ref30_Equal_L19 x x s) 0 = some (if x.Waits.all (fun _ => true) = true then true else false) := by
    refine loop_allF x.Waits (fun _ => true) _ _ _ (fun i hi => ?_) ?_
    · unfold ref30_Equal_L19
      have h1 : (i : Int) < (List.length x.Waits : Int) := by omega
      simp only [decide_eq_true h1, if_true, lsAt_nat hi, Option.bind_some, wrapNat hi (by omega)]
      simp
    · unfold ref30_Equal_L19
      simp
  have l2 : loopM (fun s => ref30_Equal_L9 x x s) 0 = some (if x.Notes.all (fun _ => true) = true then true else false) := by
    refine loop_allF x.Notes (fun _ => true) _ _ _ (fun i hi => ?_) ?_
    · unfold ref30_Equal_L9
      have h1 : (i : Int) < (List.length x.Notes : Int) := by omega
      simp only [decide_eq_true h1, if_true, lsAt_nat hi, Option.bind_some, wrapNat hi (by omega)]
      simp
    · unfold ref30_Equal_L9
      rw [l1]; simp
  unfold ref30_Equal
  rw [l2]; simp
theorem ref30_Same_refl {p : api_Procs} (h : Mod p) : ref30_Same p p = some true := by
  have hm := m5
  have hn := h.n
  have l1 : loopM (fun s => ref30_Same_L11 p p s) 0 = some (if p.L.all (fun _ => true) = true then true else false) := by
    refine loop_allF p.L (fun _ => true) _ _ _ (fun i hi => ?_) ?_
    · unfold ref30_Same_L11
      have h1 : (i : Int) < (List.length p.L : Int) := by omega
      have he := h.e _ (List.getElem_mem hi)
      simp only [decide_eq_true h1, if_true, lsAt_nat hi, Option.bind_some, wrapNat hi (by omega), ref30_Equal_refl he.1 he.2.1]
      simp
    · unfold ref30_Same_L11
      simp
  unfold ref30_Same
  rw [l1]; simp

/-! ### new tables -/
def tabN (u : Str) : api_Procs := api_Procs.mk 2 2 [(api_Proc.mk 1 0 1 u [] 1 1 1 [47] ([] : List Str) [] ([] : List api_Wait) false)]
def newS (u : Str) : api_Procs × Int := if userV u = true then (tabN u, 0) else (api_Procs.mk 0 0 [], 25)
theorem proc_New_eq {u : Str} (h : u.length ≤ maxLen) : proc_New u = some (newS u) := by
  unfold proc_New newS
  rw [user_Valid_eq h, Option.bind_some]
  cases userV u <;> rfl
theorem ref30_New_eq {u : Str} (h : u.length ≤ maxLen) : ref30_New u = some (newS u) := by
  unfold ref30_New newS
  rw [ref05_Valid_eq h, Option.bind_some]
  cases userV u <;> rfl
theorem root_slash : rootC [47] = true := by decide +kernel
theorem good_new {u : Str} (h : userV u = true) : Good (tabN u) where
  n2 := by simp [tabN]
  inc := by simp [tabN]
  fst := ⟨_, _, rfl, rfl, rfl⟩
  lst := by simp [tabN]
  nx := by simp [tabN]
  g1 := by simp [tabN]
  g2 := by simp [tabN]
  par := by simp [tabN]
  fld := by
    intro x hx
    simp only [tabN, List.mem_singleton] at hx
    subst hx
    exact fld_iff.2 { st := rfl, us := h, nm := .inl rfl, cw := root_slash, stt := rfl, ns := by simp [tabN], en := by simp [tabN], fd := by simp [tabN], l1 := by simp, l2 := by simp, an := rfl, aw := rfl }
theorem new_mod {u : Str} (h : u.length ≤ 1000) : Mod (newS u).1 := by
  unfold newS
  split
  · exact (good_new (by assumption)).mod
  · exact ⟨by simp, by simp⟩

/-! ### the example of every law -/
def ann : Str := [97, 110, 110]
theorem ann_ok : userV ann = true := by decide +kernel
def T1 : api_Procs := (forkS (tabN ann) 1 5).1
def T2 : api_Procs := (exitS T1 2 [100, 111, 110, 101]).1
def T3 : api_Procs := (awaitS T2 1).1
theorem law30_awake_true : law30_awake = some true := by
  have g0 : Good (tabN ann) := good_new ann_ok
  have e0 : proc_New [97, 110, 110] = some (tabN ann, 0) := by
    rw [proc_New_eq (by unfold maxLen; simp)]
    unfold newS
    rw [if_pos (show userV [97, 110, 110] = true from ann_ok)]; rfl
  have e1 : proc_Await (tabN ann) 1 = some (tabN ann, api_Wait.mk 0 [], false, 42) := by
    rw [proc_Await_eq g0.mod g0.uniq]; rfl
  have g1 : Good T1 := fork_good g0 1 5
  have e2 : proc_Fork (tabN ann) 1 5 = some (T1, 2, 0) := by
    rw [proc_Fork_eq g0.mod g0 1 5 (by decide)]; rfl
  have e3 : proc_Find T1 2 = some (api_Proc.mk 2 1 1 ann [] 2 1 3 [47] [] [] [] false, true) := by
    rw [proc_Find_eq g1.mod]; rfl
  have e4 : proc_Await T1 1 = some (T1, api_Wait.mk 0 [], true, 0) := by
    rw [proc_Await_eq g1.mod g1.uniq]; rfl
  have g2 : Good T2 := exit_good g1 2
  have e5 : proc_Exit T1 2 [100, 111, 110, 101] = some (T2, 0) := by
    rw [proc_Exit_eq g1.mod g1.uniq g1.parNe]; rfl
  have g3 : Good T3 := await_good g2 1
  have e6 : proc_Await T2 1 = some (T3, api_Wait.mk 2 [100, 111, 110, 101], false, 0) := by
    rw [proc_Await_eq g2.mod g2.uniq]; rfl
  have e7 : proc_Right T3 = some true := by
    rw [proc_Right_eq g3.mod, rightB_iff.2 g3]
  have e8 : T3.L.length = 1 := by rfl
  unfold law30_awake
  rw [e0]
  simp only [e1, e2, e3, e4, e5, e6, e7, e8, Option.bind_some]
  simp
theorem law30_ProcNews_true (user : Str) (w0 : List.length user ≤ maxLen) : law30_ProcNews user = some true := by
  unfold law30_ProcNews
  rw [law30_awake_true, proc_New_eq w0, ref30_New_eq w0]
  by_cases h : (1000 : Int) < (List.length user : Int)
  · simp [h]
  · have hs := ref30_Same_refl (new_mod (u := user) (by omega))
    simp [h, hs]

/-! ### small tables -/
/-! ### one call -/
/-! ### the waits -/
/-! ### the groups -/
end Go.Proofs.YtfaobpifaobobaaDoor
