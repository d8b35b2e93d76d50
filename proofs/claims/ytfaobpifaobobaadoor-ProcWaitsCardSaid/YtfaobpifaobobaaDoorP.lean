/- The laws. -/
import Derived.Test.YtfaobpifaobobaaDoorPG
namespace Go.Proofs.YtfaobpifaobobaaDoor
open Go.Vm
set_option autoImplicit false
set_option linter.unusedVariables false
set_option linter.unusedSimpArgs false
set_option maxRecDepth 100000

/-! ### equality of tables -/
/-! ### new tables -/
def tabN (u : Str) : api_Procs := api_Procs.mk 2 2 [(api_Proc.mk 1 0 1 u [] 1 1 1 [47] ([] : List Str) [] ([] : List api_Wait) false)]
def newS (u : Str) : api_Procs × Int := if userV u = true then (tabN u, 0) else (api_Procs.mk 0 0 [], 25)
theorem proc_New_eq {u : Str} (h : u.length ≤ maxLen) : proc_New u = some (newS u) := by
  unfold proc_New newS
  rw [user_Valid_eq h, Option.bind_some]
  cases userV u <;> rfl
theorem root_slash : rootC [47] = true := by decide +kernel
theorem good_new {u : Str} (h : userV u = true) : Good (tabN u) where
  n2 := by simp [tabN]
  inc := by simp [tabN]
  fst := ⟨_, _, rfl, rfl, rfl⟩
  lst := by simp [tabN]
  nx := by simp [tabN]
  g1 := by simp [tabN]
  g2 := by simp [tabN]
  par := by simp [tabN]
  fld := by
    intro x hx
    simp only [tabN, List.mem_singleton] at hx
    subst hx
    exact fld_iff.2 { st := rfl, us := h, nm := .inl rfl, cw := root_slash, stt := rfl, ns := by simp [tabN], en := by simp [tabN], fd := by simp [tabN], l1 := by simp, l2 := by simp, an := rfl, aw := rfl }
/-! ### the example of every law -/
def ann : Str := [97, 110, 110]
theorem ann_ok : userV ann = true := by decide +kernel
def T1 : api_Procs := (forkS (tabN ann) 1 5).1
def T2 : api_Procs := (exitS T1 2 [100, 111, 110, 101]).1
def T3 : api_Procs := (awaitS T2 1).1
theorem law30_awake_true : law30_awake = some true := by
  have g0 : Good (tabN ann) := good_new ann_ok
  have e0 : proc_New [97, 110, 110] = some (tabN ann, 0) := by
    rw [proc_New_eq (by unfold maxLen; simp)]
    unfold newS
    rw [if_pos (show userV [97, 110, 110] = true from ann_ok)]; rfl
  have e1 : proc_Await (tabN ann) 1 = some (tabN ann, api_Wait.mk 0 [], false, 42) := by
    rw [proc_Await_eq g0.mod g0.uniq]; rfl
  have g1 : Good T1 := fork_good g0 1 5
  have e2 : proc_Fork (tabN ann) 1 5 = some (T1, 2, 0) := by
    rw [proc_Fork_eq g0.mod g0 1 5 (by decide)]; rfl
  have e3 : proc_Find T1 2 = some (api_Proc.mk 2 1 1 ann [] 2 1 3 [47] [] [] [] false, true) := by
    rw [proc_Find_eq g1.mod]; rfl
  have e4 : proc_Await T1 1 = some (T1, api_Wait.mk 0 [], true, 0) := by
    rw [proc_Await_eq g1.mod g1.uniq]; rfl
  have g2 : Good T2 := exit_good g1 2
  have e5 : proc_Exit T1 2 [100, 111, 110, 101] = some (T2, 0) := by
    rw [proc_Exit_eq g1.mod g1.uniq g1.parNe]; rfl
  have g3 : Good T3 := await_good g2 1
  have e6 : proc_Await T2 1 = some (T3, api_Wait.mk 2 [100, 111, 110, 101], false, 0) := by
    rw [proc_Await_eq g2.mod g2.uniq]; rfl
  have e7 : proc_Right T3 = some true := by
    rw [proc_Right_eq g3.mod, rightB_iff.2 g3]
  have e8 : T3.L.length = 1 := by rfl
  unfold law30_awake
  rw [e0]
  simp only [e1, e2, e3, e4, e5, e6, e7, e8, Option.bind_some]
  simp
/-! ### small tables -/
def smN (n : Str) : Bool := !decide (1100 < (List.length n : Int))
def smW (w : api_Wait) : Bool := !decide (1100 < (List.length w.Status : Int))
def bigX (x : api_Proc) : Bool := ((decide (100 < (List.length x.Notes : Int))) || ((decide (100 < (List.length x.Waits : Int))) || ((decide (1100 < (List.length x.User : Int))) || ((decide (1100 < (List.length x.Name : Int))) || ((decide (1100 < (List.length x.Cwd : Int))) || (decide (1100 < (List.length x.Status : Int))))))))
def smX (x : api_Proc) : Bool := !bigX x && (x.Notes.all smN && x.Waits.all smW)
def smallB (p : api_Procs) : Bool := !decide (70 < (List.length p.L : Int)) && p.L.all smX
theorem law30_small_eq (p : api_Procs) : law30_small p = some (smallB p) := by
  have hm := m5
  unfold law30_small smallB
  by_cases h : (70 : Int) < (List.length p.L : Int)
  · simp [h]
  · simp only [decide_eq_false h, Bool.false_eq_true, if_false, Bool.not_false, Bool.true_and]
    refine loop_all p.L smX _ (fun i hi => ?_) ?_
    · unfold law30_small_L28
      have h1 : (i : Int) < (List.length p.L : Int) := by omega
      simp only [decide_eq_true h1, if_true, lsAt_nat hi, Option.bind_some]
      generalize hx : p.L[i] = x
      have hw := wrapNat hi (by omega)
      show (if bigX x = true then _ else _) = _
      unfold smX
      cases hb : bigX x with
      | true => simp
      | false =>
        have hb' := hb
        unfold bigX at hb'
        simp only [Bool.or_eq_false_iff, decide_eq_false_iff_not] at hb'
        obtain ⟨b1, b2, -⟩ := hb'
        simp only [Bool.false_eq_true, if_false, Bool.not_false, Bool.true_and]
        have lw : loopM (fun s => law30_small_L50 (i : Int) x s) 0 = some (if x.Waits.all smW = true then (.cont ((i : Int) + 1)) else (.done false)) := by
          refine loop_allF x.Waits smW _ _ _ (fun k hk => ?_) ?_
          · unfold law30_small_L50 smW
            have h1 : (k : Int) < (List.length x.Waits : Int) := by omega
            simp only [decide_eq_true h1, if_true, lsAt_nat hk, Option.bind_some, wrapNat hk (by omega)]
            cases decide (1100 < (List.length x.Waits[k].Status : Int)) <;> rfl
          · unfold law30_small_L50
            simp [hw]
        have ln : loopM (fun s => law30_small_L42 (i : Int) x s) 0 = some (if x.Notes.all smN = true then (if x.Waits.all smW = true then (.cont ((i : Int) + 1)) else (.done false)) else (.done false)) := by
          refine loop_allF x.Notes smN _ _ _ (fun k hk => ?_) ?_
          · unfold law30_small_L42 smN
            have h1 : (k : Int) < (List.length x.Notes : Int) := by omega
            simp only [decide_eq_true h1, if_true, lsAt_nat hk, Option.bind_some, wrapNat hk (by omega)]
            cases decide (1100 < (List.length x.Notes[k] : Int)) <;> rfl
          · unfold law30_small_L42
            rw [lw]; simp
        rw [ln]
        cases x.Notes.all smN <;> cases x.Waits.all smW <;> rfl
    · unfold law30_small_L28
      simp
theorem small_mod {p : api_Procs} (h : smallB p = true) : Mod p := by
  unfold smallB at h
  simp only [Bool.and_eq_true, Bool.not_eq_true', decide_eq_false_iff_not, List.all_eq_true] at h
  obtain ⟨h1, h2⟩ := h
  refine ⟨by omega, fun x hx => ?_⟩
  have h3 := h2 x hx
  unfold smX bigX at h3
  simp only [Bool.and_eq_true, Bool.not_eq_true', Bool.or_eq_false_iff, decide_eq_false_iff_not] at h3
  obtain ⟨⟨a1, a2, a3, a4, a5, a6⟩, -⟩ := h3
  omega
/-! ### one call -/
/-! ### the waits -/
theorem findP_mem {l : List api_Proc} {y : api_Proc} (hu : Uniq l) (hy : y ∈ l) : findP l y.Id = (y, true) := by
  obtain ⟨a, b, rfl⟩ := List.append_of_mem hy
  exact findP_some rfl (fun z hz => hu.mid.1 z hz)
theorem await_step {q : api_Procs} (g : Good q) {Y : api_Proc} {w : api_Wait} {r : List api_Wait} (hf : findP q.L Y.Id = (Y, true)) (hw : Y.Waits = w :: r) :
    ∃ q', awaitS q Y.Id = (q', w, false, 0) ∧ Good q' ∧ findP q'.L Y.Id = ({ Y with Waits := r }, true) := by
  refine ⟨{ q with L := putP q.L { Y with Waits := r } }, ?_, ?_, ?_⟩
  · unfold awaitS
    simp [hf, hw]
  · have := await_good g Y.Id
    have he : (awaitS q Y.Id).1 = { q with L := putP q.L { Y with Waits := r } } := by
      unfold awaitS
      simp [hf, hw]
    rw [he] at this; exact this
  · have hg := await_good g Y.Id
    have he : (awaitS q Y.Id).1 = { q with L := putP q.L { Y with Waits := r } } := by
      unfold awaitS
      simp [hf, hw]
    rw [he] at hg
    have hm : Y ∈ q.L := by
      have := (find_mem (p := q) (id := Y.Id) (by rw [hf])).1
      rw [hf] at this; exact this
    exact findP_mem (y := { Y with Waits := r }) hg.uniq (List.mem_map.2 ⟨Y, hm, if_pos rfl⟩)
theorem law30_ProcWaits_true (p : api_Procs) (id : Int) (status : Str) (w0 : wf_api_Procs p) (w1 : (Lit.int .i64 id).wf = true) (w2 : List.length status ≤ maxLen) : law30_ProcWaits p id status = some true := by
  unfold law30_ProcWaits
  rw [law30_awake_true, law30_small_eq, Option.bind_some]
  cases hs : smallB p with
  | false => rfl
  | true =>
    have h := small_mod hs
    have hm := m5
    by_cases ht : (1024 : Int) < (List.length status : Int)
    · simp [ht]
    · rw [ref30_Right_eq h]
      cases hr : rightB p with
      | false => simp [ht]
      | true =>
        have g := rightB_iff.1 hr
        simp only [decide_eq_false ht, Bool.not_true, Bool.false_eq_true, if_false, Option.bind_some, ref30_Find_eq h]
        cases hf : findP p.L id with
        | mk x f =>
          cases f with
          | false => rfl
          | true =>
            cases hA : x.Alone with
            | true => simp [hA]
            | false =>
              by_cases h1 : id = 1
              · simp [h1]
              · have hx : x ∈ p.L ∧ x.Id = id := by
                  have := find_mem (p := p) (id := id) (by rw [hf])
                  rw [hf] at this; exact this
                obtain ⟨up, hup, hu1, hu2⟩ := g.par x hx.1 (by rw [hx.2]; exact h1)
                have hfu : findP p.L x.Parent = (up, true) := by rw [← hu1]; exact findP_mem g.uniq hup
                simp only [hA, Bool.not_true, decide_eq_false h1, Bool.or_self, Bool.false_eq_true, if_false, hfu]
                by_cases h64 : (64 : Int) ≤ (List.length up.Waits : Int)
                · simp [h64]
                · have hsh : shortB status = true := by unfold shortB; simp; omega
                  have hE : exitS p id status = ({ p with L := p.L.filterMap (exitF id status x) }, 0) := by
                    unfold exitS
                    simp [hf, h1, hsh]
                  have gE := exit_good g id (s := status)
                  rw [hE] at gE
                  simp only [decide_eq_false h64, Bool.false_eq_true, if_false, proc_Exit_eq h g.uniq g.parNe, hE, Option.bind_some, decide_true, Bool.not_true]
                  have hne : up.Id ≠ id := by rw [← hx.2]; omega
                  have hYm : exitY id status x up ∈ p.L.filterMap (exitF id status x) := List.mem_filterMap.2 ⟨up, hup, by unfold exitF; rw [if_neg hne]⟩
                  have hYw : (exitY id status x up).Waits = up.Waits ++ [api_Wait.mk id status] := by
                    unfold exitY
                    have hw : waitC x (repP id up) = true := by
                      unfold waitC
                      rw [(repP_id id up).1, (repP_id id up).2.1, hu1, hA]
                      simp; omega
                    rw [if_pos hw]
                    show (repP id up).Waits ++ _ = _
                    rw [(repP_id id up).2.1]
                  have hYi : (exitY id status x up).Id = up.Id := exitY_id _ _ _ _
                  have hwl := (h.e up hup).2.1
                  refine loopM_F (τ := Int × api_Procs) up.Waits.length (fun (q : api_Procs) i => (i, q)) (fun s => law30_ProcWaits_L28 id status (up, true) s.1 s.2) (fun _ _ => true)
                    (fun i q => Good q ∧ ∃ Y, Y.Id = up.Id ∧ findP q.L up.Id = (Y, true) ∧ Y.Waits = up.Waits.drop i ++ [api_Wait.mk id status]) (s0 := { p with L := p.L.filterMap (exitF id status x) })
                    ⟨gE, _, hYi, by rw [← hYi]; exact findP_mem gE.uniq hYm, by rw [hYw]; rfl⟩ (fun q i hi hI => ?_) (fun q hI => ?_)
                  · obtain ⟨gq, Y, y1, y2, y3⟩ := hI
                    rw [List.drop_eq_getElem_cons hi] at y3
                    rw [← y1] at y2
                    obtain ⟨q', a1, a2, a3⟩ := await_step gq y2 y3
                    left
                    refine ⟨q', ?_, rfl, a2, { Y with Waits := up.Waits.drop (i + 1) ++ [api_Wait.mk id status] }, y1, by rw [← y1]; exact a3, rfl⟩
                    show law30_ProcWaits_L28 id status (up, true) (i : Int) q = _
                    unfold law30_ProcWaits_L28
                    have hi1 : (i : Int) < (List.length up.Waits : Int) := by omega
                    rw [y1] at a1
                    simp only [decide_eq_true hi1, if_true, proc_Await_eq gq.mod gq.uniq, a1, Option.bind_some, lsAt_nat hi, wrapNat hi (by omega)]
                    simp
                  · obtain ⟨gq, Y, y1, y2, y3⟩ := hI
                    rw [List.drop_length, List.nil_append] at y3
                    rw [← y1] at y2
                    obtain ⟨q', a1, a2, a3⟩ := await_step gq y2 y3
                    show law30_ProcWaits_L28 id status (up, true) _ q = _
                    unfold law30_ProcWaits_L28 law30_ProcWaits_A42
                    rw [y1] at a1
                    simp only [proc_Await_eq gq.mod gq.uniq, a1, Option.bind_some, law30_awake_true]
                    simp

/-! ### the groups -/
end Go.Proofs.YtfaobpifaobobaaDoor
