/- One operation of a statement, guarded or not, in the model. -/
import Derived.Test.YtheeafnmkboblaaDoorVmRegion
namespace Go.Vm
set_option autoImplicit false
open Go.RowKit (Below)

structure RepA (w0 : World) (I0 : Nat → Prop) (get : Nat → Option HV) (row : Rows') (a : Act) (w : World) (I : Nat → Prop) (ρ : Nat → Option Loc) : Prop where
  mem : Mem w0 I0 row w I ρ
  tm : ∀ s h, get s = some h → s < a.tmps.size ∧ RepH w I ρ h (a.tmps.getD s undef)
  df : a.defers = []

def getPut (get : Nat → Option HV) (dst : Option Nat) (h : HV) : Nat → Option HV := fun s => if dst = some s then some h else get s

/-- the model's operation and the machine's -/
structure OperIs (P : Program) (ops : Array Oper) (o : Oper) (vo : VOper) : Prop where
  dst : o.dst = vo.dst
  op : vo.op = .bad ∨ opOf P o.op = some vo.op
  guard : (o.guard = none ∧ vo.guard = none) ∨ ∃ j t want, o.guard = some (j, want) ∧ (ops[j]?).bind (·.dst) = some t ∧ vo.guard = some (t, want)

def gOk (get : Nat → Option HV) : Option (Nat × Bool) → Option Bool
  | none => some true
  | some (t, want) => match get t with
    | some (.pv (.bool b)) => some (b == want)
    | some .undef => some false
    | _ => none
def EvOK (P : Program) (vo : VOper) (id0 : Nat) (get : Nat → Option HV) (row : Rows') (h : HV) (upd : Upd) : Prop :=
  match gOk get vo.guard with
  | some true => OpEv P vo.op id0 get row h upd
  | some false => h = .undef ∧ upd = []
  | none => False
def VOper.tmps (vo : VOper) : List Nat := (match vo.guard with | none => [] | some (t, _) => [t]) ++ vo.op.tmps
def VOper.reads (vo : VOper) (get : Nat → Option HV) : List Nat := match gOk get vo.guard with
  | some true => readsOf vo.op get
  | _ => []

theorem opOf_call_inv {P : Program} {op : Op} {f : FuncId} {args : List VA} (h : opOf P op = some (.call f args)) : ∃ xs ts, op = .call { callee := .value (.func f), args := xs, argTypes := ts } ∧ xs.toList.mapM opdOf = some args := by
  unfold opOf at h
  split at h
  case h_27 =>
    simp only [Option.map_eq_some_iff, VOp.call.injEq] at h
    obtain ⟨xs, hx, rfl, rfl⟩ := h
    exact ⟨_, _, rfl, hx⟩
  all_goals exfalso
  all_goals try (simp at h; done)
  all_goals (repeat' split at h)
  all_goals try (simp at h; done)
  all_goals (simp only [Option.bind_eq_some_iff] at h; obtain ⟨_, _, h⟩ := h)
  all_goals try (simp at h; done)
  all_goals (repeat' split at h)
  all_goals try (simp at h; done)
  all_goals (simp only [Option.bind_eq_some_iff] at h; obtain ⟨_, _, h⟩ := h)
  all_goals try (simp at h; done)
  all_goals (repeat' split at h)
  all_goals try (simp at h; done)
  all_goals (simp only [Option.bind_eq_some_iff] at h; obtain ⟨_, _, h⟩ := h)
  all_goals try (simp at h; done)
  all_goals (repeat' split at h)
  all_goals (simp at h; done)

theorem opOf_callv_inv {P : Program} {op : Op} {x : VA} {args : List VA} (h : opOf P op = some (.callv x args)) : ∃ t xs ts, x = .t t ∧ op = .call { callee := .value (.tmp t), args := xs, argTypes := ts } ∧ xs.toList.mapM opdOf = some args := by
  unfold opOf at h
  split at h
  case h_28 =>
    simp only [Option.map_eq_some_iff, VOp.callv.injEq] at h
    obtain ⟨xs, hx, rfl, rfl⟩ := h
    exact ⟨_, _, _, rfl, rfl, hx⟩
  all_goals exfalso
  all_goals try (simp at h; done)
  all_goals (repeat' split at h)
  all_goals try (simp at h; done)
  all_goals (simp only [Option.bind_eq_some_iff] at h; obtain ⟨_, _, h⟩ := h)
  all_goals try (simp at h; done)
  all_goals (repeat' split at h)
  all_goals try (simp at h; done)
  all_goals (simp only [Option.bind_eq_some_iff] at h; obtain ⟨_, _, h⟩ := h)
  all_goals try (simp at h; done)
  all_goals (repeat' split at h)
  all_goals try (simp at h; done)
  all_goals (simp only [Option.bind_eq_some_iff] at h; obtain ⟨_, _, h⟩ := h)
  all_goals try (simp at h; done)
  all_goals (repeat' split at h)
  all_goals (simp at h; done)

section
variable {P : Program} {w0 : World} {I0 : Nat → Prop} {get : Nat → Option HV} {row : Rows'} {a : Act} {w : World} {I : Nat → Prop} {ρ : Nat → Option Loc} {ops : Array Oper} {Q : Exit → Act → World → Prop}

theorem RepA.eval (hr : RepA w0 I0 get row a w I ρ) (x : Operand) (vx : VA) (h : HV) (hx : opdOf x = some vx) (hg : vx.get get = some h) : RepH w I ρ h (a.eval x) := by
  cases x with
  | tmp t =>
    simp only [opdOf, Option.some.injEq] at hx
    subst hx
    exact (hr.tm t h hg).2
  | const v =>
    simp only [opdOf] at hx
    split at hx
    · rename_i hc
      simp only [Option.some.injEq] at hx
      subst hx
      simp only [VA.get, Option.some.injEq] at hg
      subst hg
      exact .pv (closed_rep hc)
    · cases hx
  | global g => simp [opdOf] at hx
  | func f => simp [opdOf] at hx

theorem RepA.put (hr : RepA w0 I0 get row a w I ρ) {row' : Rows'} {w' : World} {I' : Nat → Prop} {ρ' : Nat → Option Loc} {ids : Nat → Prop} (hm : Mem w0 I0 row' w' I' ρ') (hg : Grow w I ρ w' I' ρ' ids) {dst : Option Nat} {h : HV} {v : Value}
    (hv : RepH w' I' ρ' h v) (hd : ∀ d, dst = some d → d < a.tmps.size) : RepA w0 I0 (getPut get dst h) row' (a.put dst v) w' I' ρ' := by
  refine ⟨hm, fun s x hx => ?_, ?_⟩
  · unfold getPut at hx
    cases dst with
    | none =>
      simp at hx
      obtain ⟨h1, h2⟩ := hr.tm s x hx
      exact ⟨h1, hg.H h2⟩
    | some d =>
      by_cases hds : d = s
      · subst hds
        simp at hx; subst hx
        have hlt := hd d rfl
        refine ⟨by simpa [Act.put] using hlt, ?_⟩
        have : (a.put (some d) v).tmps.getD d undef = v := by simp [Act.put, Array.getD, hlt]
        rw [this]; exact hv
      · simp [hds] at hx
        obtain ⟨h1, h2⟩ := hr.tm s x hx
        refine ⟨by simpa [Act.put] using h1, ?_⟩
        have : (a.put (some d) v).tmps.getD s undef = a.tmps.getD s undef := by
          simp [Act.put, Array.getElem?_setIfInBounds_ne hds]
        rw [this]; exact hg.H h2
  · cases dst <;> simp [Act.put, hr.df]
theorem put_size (a : Act) (dst : Option Nat) (v : Value) : (a.put dst v).tmps.size = a.tmps.size := by cases dst <;> simp [Act.put]

theorem getPut_same (get : Nat → Option HV) (h : HV) : getPut get none h = get := by funext s; simp [getPut]

theorem guard_sound {o : Oper} {vo : VOper} (hm : OperIs P ops o vo) (hr : RepA w0 I0 get row a w I ρ) {b : Bool} (hb : gOk get vo.guard = some b) : Region.wanted o (yielded ops a.tmps) = b := by
  rcases hm.guard with ⟨h1, h2⟩ | ⟨j, t, want, h1, h2, h3⟩
  · rw [h2] at hb
    simp [gOk] at hb
    subst hb
    simp [Region.wanted, h1]
  · rw [h3] at hb
    simp only [gOk] at hb
    unfold Region.wanted
    rw [h1]
    simp only
    split at hb
    · rename_i c hc
      obtain ⟨hlt, hrep⟩ := hr.tm t _ hc
      have hv := hrep.bool_inv
      have hy : yielded ops a.tmps j = some c := by
        unfold yielded
        rw [h2]
        simp only [Option.bind_some]
        have : a.tmps[t]? = some (.bool c) := by
          simp [Array.getD, hlt] at hv
          simp [hlt, hv]
        rw [this]
      rw [hy]
      simp only [Option.some.injEq] at hb
      rw [← hb]
      cases c <;> cases want <;> rfl
    · rename_i hc
      obtain ⟨hlt, hrep⟩ := hr.tm t _ hc
      have hv : a.tmps.getD t undef = undef := by
        generalize a.tmps.getD t undef = v at hrep
        cases hrep; rfl
      have hy : yielded ops a.tmps j = none := by
        unfold yielded
        rw [h2]
        simp only [Option.bind_some]
        have : a.tmps[t]? = some undef := by
          simp [Array.getD, hlt] at hv
          simp [hlt, hv]
        rw [this]
        rfl
      rw [hy]
      simp only [Option.some.injEq] at hb
      rw [← hb]
      cases want <;> rfl
    · cases hb

theorem oper_sound {i : Nat} {o : Oper} {vo : VOper} {id0 : Nat} {h : HV} {upd : Upd} (hi : ops[i]? = some o) (hm : OperIs P ops o vo) (hr : RepA w0 I0 get row a w I ρ) (hev : EvOK P vo id0 get row h upd)
    (hfree : ∀ k, id0 ≤ k → k < id0 + 4 → ρ k = none) (hdst : ∀ d, vo.dst = some d → d < a.tmps.size) {K : Act → World → Prop}
    (hK : ∀ a' w' I' ρ', RepA w0 I0 (getPut get vo.dst h) (over row upd) a' w' I' ρ' → a'.tmps.size = a.tmps.size → (∀ k, ρ k = none → ¬ (id0 ≤ k ∧ k < id0 + 4) → ρ' k = none) → K a' w') :
    wpOp P ops Q i K a w := by
  unfold wpOp
  simp only [hi]
  unfold EvOK at hev
  have hdst' : ∀ d, o.dst = some d → d < a.tmps.size := by rw [hm.dst]; exact hdst
  cases hg : gOk get vo.guard with
  | none => rw [hg] at hev; exact hev.elim
  | some b =>
    rw [hg] at hev
    have hw := guard_sound hm hr hg
    cases b with
    | false =>
      obtain ⟨rfl, rfl⟩ := hev
      simp only [hw, Bool.false_eq_true, if_false]
      refine hK _ _ I ρ ?_ (put_size _ _ _) (fun k hk _ => hk)
      rw [← hm.dst]
      exact hr.put hr.mem (Grow.refl (ids := fun _ => False)) .undef hdst'
    | true =>
      simp only [hw, if_true]
      refine .inl ?_
      have hrow0 : row id0 = none := by
        cases hx : row id0 with
        | none => rfl
        | some r => obtain ⟨l, h1, _⟩ := hr.mem.rows id0 r hx; rw [hfree id0 (Nat.le_refl _) (by omega)] at h1; cases h1
      simp only at hev
      -- what is frozen at once
      have fz : ∀ {h0 : HV} {upd0 : Upd} (v : Value) (w' : World) (I' : Nat → Prop) (ρ' : Nat → Option Loc), Mem w0 I0 (over row upd0) w' I' ρ' → RepH w' I' ρ' h0 v → Grow w I ρ w' I' ρ' (fun k => id0 ≤ k ∧ k < id0 + 4) →
          ((h0 = h ∧ upd0 = upd) ∨ ∃ sh es len, h0 = .osl id0 0 len ∧ upd0 = (id0, some (.p sh es)) :: upd ∧ len ≤ es.length ∧ look upd id0 = none ∧ h = .pv (.sl sh (es.take len))) → K (a.put o.dst v) w' := by
        intro h0 upd0 v w' I' ρ' m1 r1 g1 hc
        rcases hc with ⟨rfl, rfl⟩ | ⟨sh, es, len, rfl, rfl, hle, hlk, rfl⟩
        · refine hK _ _ I' ρ' ?_ (put_size _ _ _) g1.dom
          rw [← hm.dst]
          exact hr.put m1 g1 r1 hdst'
        · obtain ⟨I2, m2, r2, hi⟩ := freeze_row m1 r1 hle hlk hrow0
          have g2 : Grow w I ρ w' I2 ρ' (fun k => id0 ≤ k ∧ k < id0 + 4) := ⟨g1.agree, fun b hb => hi b (g1.mono b hb), g1.rho, g1.dom⟩
          refine hK _ _ I2 ρ' ?_ (put_size _ _ _) g2.dom
          rw [← hm.dst]
          exact hr.put m2 g2 r2 hdst'
      have hev' : ∃ h0 upd0, OpEv0 P vo.op id0 get row h0 upd0 ∧ ((h0 = h ∧ upd0 = upd) ∨ ∃ sh es len, h0 = .osl id0 0 len ∧ upd0 = (id0, some (.p sh es)) :: upd ∧ len ≤ es.length ∧ look upd id0 = none ∧ h = .pv (.sl sh (es.take len))) := by
        rcases hev with hev | ⟨sh, es, len, h1, h2, h3, h4⟩
        · exact ⟨h, upd, hev, .inl ⟨rfl, rfl⟩⟩
        · exact ⟨_, _, h1, .inr ⟨sh, es, len, rfl, rfl, h2, h3, h4⟩⟩
      clear hev
      obtain ⟨h0, upd0, hev, hcc⟩ := hev'
      unfold OpEv0 at hev
      split at hev
      · rename_i hc
        obtain ⟨f, hs, ds, r, fl, h1, h2, h3, h4, h5, h6, rfl, rfl⟩ := hev
        -- the call
        have key : ∀ vs : Array Value, (execOp a.eval o).run P w = .ok (.enter f vs) w → RepHs w I ρ hs vs.toList → o.wp P a w K Q := by
          intro vs hex hvs
          unfold Oper.wp
          rw [hex, Oper.upon_enter]
          refine (call_sound hr.mem hvs h2 h3 h4 h5 h6 hfree).mono ?_
          rintro e w' ⟨v, I', ρ', rfl, m1, r1, g1⟩
          exact fz v w' I' ρ' m1 r1 g1 hcc
        have hop : opOf P o.op = some vo.op := by
          rcases hm.op with hb | hb
          · rw [hb] at hc; simp [isCall] at hc
          · exact hb
        cases hvop : vo.op with
        | call f' args =>
          rw [hvop] at h1 hop
          simp only [calleeOf, Option.map_eq_some_iff, Prod.mk.injEq] at h1
          obtain ⟨hs', hhs, rfl, rfl⟩ := h1
          have := opOf_call_inv hop
          obtain ⟨xs, ts, ho, hx⟩ := this
          refine key (xs.map a.eval) ?_ ?_
          · have he := h3.enter (xs.map a.eval) w
            simp [execOp, ho, resolve, Act.eval, Deferred.ofValue, invoke]
            simpa [Act.eval] using he
          · have := gets_rep (fun x vx h h1 h2 => hr.eval x vx h h1 h2) hx hhs
            simpa using this
        | callv x args =>
          rw [hvop] at h1 hop
          have := opOf_callv_inv hop
          obtain ⟨t, xs, ts, rfl, ho, hx⟩ := this
          have hfn : ∃ hs' caps cv, args.mapM (VA.get get) = some hs' ∧ hs = hs' ++ caps ∧ a.eval (.tmp t) = .func (.func f) #[] cv ∧ RepHs w I ρ caps cv.toList := by
            simp only [calleeOf] at h1
            split at h1
            · rename_i f' caps hxt
              simp only [Option.map_eq_some_iff, Prod.mk.injEq] at h1
              obtain ⟨hs', hhs, rfl, rfl⟩ := h1
              have hrep := hr.eval (.tmp t) (.t t) _ rfl hxt
              generalize a.eval (.tmp t) = v at hrep ⊢
              cases hrep with | pv hrep => cases hrep with
              | fn _ hc => exact ⟨_, _, _, hhs, rfl, rfl, hc.toH rfl⟩
            · rename_i f' caps hxt
              simp only [Option.map_eq_some_iff, Prod.mk.injEq] at h1
              obtain ⟨hs', hhs, rfl, rfl⟩ := h1
              have hrep := hr.eval (.tmp t) (.t t) _ rfl hxt
              generalize a.eval (.tmp t) = v at hrep ⊢
              cases hrep with
              | fn _ hc => exact ⟨_, _, _, hhs, rfl, rfl, hc⟩
            · cases h1
          obtain ⟨hs', caps, cv, hhs, rfl, hev2, hcaps⟩ := hfn
          refine key (xs.map a.eval ++ cv) ?_ ?_
          · have he := h3.enter (xs.map a.eval ++ cv) w
            simp [execOp, ho, resolve, hev2, Deferred.ofValue, invoke]
            simpa using he
          · have := gets_rep (fun x vx h h1 h2 => hr.eval x vx h h1 h2) hx hhs
            simpa using this.append hcaps
        | _ => rw [hvop] at hc; simp [isCall] at hc
      · rename_i hc
        have hop : opOf P o.op = some vo.op := by
          rcases hm.op with hb | hb
          · rw [hb] at hev; simp [vstep] at hev
          · exact hb
        obtain ⟨nx, v, w', I', ρ', hrun, hnx, m1, r1, g1⟩ := vstep_sound (fun x vx h h1 h2 => hr.eval x vx h h1 h2) hr.mem hfree o hop hev
        unfold Oper.wp
        rw [hrun]
        rcases hnx with rfl | ⟨rfl, rfl⟩
        · rw [Oper.upon_value]
          exact fz _ w' I' ρ' m1 r1 g1 hcc
        · rw [Oper.upon_skip]
          exact fz _ w' I' ρ' m1 r1 g1 hcc
end
end Go.Vm
