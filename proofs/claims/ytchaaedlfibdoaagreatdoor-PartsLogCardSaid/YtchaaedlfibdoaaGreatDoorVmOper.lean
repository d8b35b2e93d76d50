import Derived.Test.YtchaaedlfibdoaaGreatDoorVmRegion
import Derived.Test.YtchaaedlfibdoaaGreatDoorVmTail
open Nat (lt_of_lt_of_le)
namespace Go.Vm
open Go.RowKit (Below)
def aA2 : HV → Option Nat
 | .tup [.optr id _ _] => some id
 | .tup [.osl id _ _] => some id
 | .tup [.omap id] => some id
 | _ => none
structure RepA [Mode] (w0 : Base) (I0 : Prot) (get : Nat → Option HV) (row : ad1) (a : Act) (w : World) (I : Prot) (ρ : Nat → Option Loc) : Prop where
 mem : Mem w0 I0 row w I ρ
 tm : ∀ s h, get s = some h → s < 1000000 → s < a.tmps.size ∧ RepH w I ρ h (a.tmps.getD s undef)
 gh : ∀ s h, get s = some h → 1000000 ≤ s → (∃ l, h = .tup l) ∧ ∃ v, w0.gh s = some v ∧ RepH w I ρ h v ∧ ∀ id l, aA2 h = some id → w0.gl s = some l → ρ id = some l
 df : a.defers = []
def aW1 (get : Nat → Option HV) (dst : Option Nat) (h : HV) : Nat → Option HV := fun s => if dst = some s then some h else get s
structure bJ5 [Mode] (P : Program) (ops : Array Oper) (o : Oper) (vo : VOper) : Prop where
 dst : o.dst = vo.dst
 op : vo.op = .bad ∨ bj3 P o.op = some vo.op
 guard : (o.guard = none ∧ vo.guard = none) ∨ ∃ j t want, o.guard = some (j, want) ∧ (ops[j]?).bind (·.dst) = some t ∧ vo.guard = some (t, want)
def gOk (get : Nat → Option HV) : Option (Nat × Bool) → Option Bool
 | none => some true
 | some (t, want) => match get t with
  | some (.pv (.bool b)) => some (b == want)
  | some .undef => some false
  | _ => none
def EvOK [Mode] (P : Program) (vo : VOper) (id0 : Nat) (get : Nat → Option HV) (row : ad1) (h : HV) (upd : Upd) : Prop :=
 match gOk get vo.guard with
 | some true => OpEv P vo.op id0 get row h upd
 | some false => h = .undef ∧ upd = []
 | none => False
def VOper.tmps (vo : VOper) : List Nat := (match vo.guard with | none => [] | some (t, _) => [t]) ++ vo.op.tmps
def VOper.reads (vo : VOper) (get : Nat → Option HV) : List Nat := match gOk get vo.guard with
 | some true => an4 vo.op get
 | _ => []
theorem bq2 [Mode] {P : Program} {op : Op} {sh : Shape} {x : VA} (h : bj3 P op = some (.load sh x)) : ∃ t a, op = .load t a ∧ aa9 P t = some sh ∧ opdOf a = some x := by
 replace h := aG1 h rfl
 unfold a91 at h
 split at h
 case h_8 =>
  simp only [oE, oM, VOp.load.injEq] at h
  obtain ⟨sh', h1, a, h2, rfl, rfl⟩ := h
  exact ⟨_, _, rfl, h1, h2⟩
 all_goals exfalso
 all_goals try (simp at h; done)
 all_goals (repeat' split at h)
 all_goals try (simp at h; done)
 all_goals (simp only [oE] at h; obtain ⟨_, _, h⟩ := h)
 all_goals try (simp at h; done)
 all_goals (repeat' split at h)
 all_goals try (simp at h; done)
 all_goals (simp only [oE] at h; obtain ⟨_, _, h⟩ := h)
 all_goals try (simp at h; done)
 all_goals (repeat' split at h)
 all_goals try (simp at h; done)
 all_goals (simp only [oE] at h; obtain ⟨_, _, h⟩ := h)
 all_goals try (simp at h; done)
 all_goals (repeat' split at h)
 all_goals try (simp at h; done)
 all_goals (simp only [oE] at h; obtain ⟨_, _, h⟩ := h)
 all_goals try (simp at h; done)
 all_goals (repeat' split at h)
 all_goals try (simp at h; done)
 all_goals (simp only [oE] at h; obtain ⟨_, _, h⟩ := h)
 all_goals try (simp at h; done)
 all_goals (repeat' split at h)
 all_goals (simp at h; done)
theorem bj6 [Mode] {P : Program} {op : Op} {sh : Shape} {x v : VA} (h : bj3 P op = some (.store sh x v)) : ∃ t a b, op = .store t a b ∧ aa9 P t = some sh ∧ opdOf a = some x ∧ opdOf b = some v := by
 replace h := aG1 h rfl
 unfold a91 at h
 split at h
 case h_9 =>
  simp only [oE, oM, VOp.store.injEq] at h
  obtain ⟨sh', h1, a, h2, b, h3, rfl, rfl, rfl⟩ := h
  exact ⟨_, _, _, rfl, h1, h2, h3⟩
 all_goals exfalso
 all_goals try (simp at h; done)
 all_goals (repeat' split at h)
 all_goals try (simp at h; done)
 all_goals (simp only [oE] at h; obtain ⟨_, _, h⟩ := h)
 all_goals try (simp at h; done)
 all_goals (repeat' split at h)
 all_goals try (simp at h; done)
 all_goals (simp only [oE] at h; obtain ⟨_, _, h⟩ := h)
 all_goals try (simp at h; done)
 all_goals (repeat' split at h)
 all_goals try (simp at h; done)
 all_goals (simp only [oE] at h; obtain ⟨_, _, h⟩ := h)
 all_goals try (simp at h; done)
 all_goals (repeat' split at h)
 all_goals try (simp at h; done)
 all_goals (simp only [oE] at h; obtain ⟨_, _, h⟩ := h)
 all_goals try (simp at h; done)
 all_goals (repeat' split at h)
 all_goals try (simp at h; done)
 all_goals (simp only [oE] at h; obtain ⟨_, _, h⟩ := h)
 all_goals try (simp at h; done)
 all_goals (repeat' split at h)
 all_goals (simp at h; done)
theorem bd3 [Mode] {P : Program} {op : Op} {sh : Shape} {n : Nat} {x y : VA} (h : bj3 P op = some (.append sh n x y)) : ∃ a b t e i, op = .call { callee := .builtin .append, args := #[a, b], argTypes := #[t, t] } ∧
  P.underlying t = some (.slice e) ∧ aa9 P e = some sh ∧ P.info? e = some i ∧ opdOf a = some x ∧ opdOf b = some y := by
 replace h := aG1 h rfl
 unfold a91 at h
 split at h
 case h_26 args argTypes =>
  split at h
  ·rename_i a b t u ha hta
   split at h
   ·rename_i htu
    subst htu
    have ha' : args = #[a, b] := by apply Array.ext'; simpa using ha
    have ht' : argTypes = #[t, t] := by apply Array.ext'; simpa using hta
    subst ha'; subst ht'
    split at h
    ·rename_i el ht
     simp only [oE] at h
     obtain ⟨sh', hsh, i, hi, z, hz, vx, hx, vy, hy, h⟩ := h
     split at h
     ·cases h
     ·simp only [oI, VOp.append.injEq] at h
      obtain ⟨rfl, rfl, rfl, rfl⟩ := h
      exact ⟨a, b, t, el, i, rfl, ht, hsh, hi, hx, hy⟩
    ·cases h
   ·split at h
    ·simp only [oE] at h
     obtain ⟨sh', hsh, i, hi, z, hz, vx, hx, vy, hy, h⟩ := h
     split at h <;> cases h
    ·cases h
  ·cases h
 all_goals exfalso
 all_goals try (simp at h; done)
 all_goals (repeat' split at h)
 all_goals try (simp at h; done)
 all_goals (simp only [oE] at h; obtain ⟨_, _, h⟩ := h)
 all_goals try (simp at h; done)
 all_goals (repeat' split at h)
 all_goals try (simp at h; done)
 all_goals (simp only [oE] at h; obtain ⟨_, _, h⟩ := h)
 all_goals try (simp at h; done)
 all_goals (repeat' split at h)
 all_goals try (simp at h; done)
 all_goals (simp only [oE] at h; obtain ⟨_, _, h⟩ := h)
 all_goals try (simp at h; done)
 all_goals (repeat' split at h)
 all_goals try (simp at h; done)
 all_goals (simp only [oE] at h; obtain ⟨_, _, h⟩ := h)
 all_goals try (simp at h; done)
 all_goals (repeat' split at h)
 all_goals try (simp at h; done)
 all_goals (simp only [oE] at h; obtain ⟨_, _, h⟩ := h)
 all_goals try (simp at h; done)
 all_goals (repeat' split at h)
 all_goals try (simp at h; done)
theorem bq3 [Mode] {P : Program} {op : Op} {sh : Shape} {x : VA} {lo hi : Option VA} (h : bj3 P op = some (.slSl sh x lo hi)) : ∃ t e a l r, op = .slice t a l r none ∧ P.underlying t = some (.slice e) ∧ aa9 P e = some sh ∧ opdOf a = some x ∧
  (match l with | none => some none | some o => (opdOf o).map some) = some lo ∧ (match r with | none => some none | some o => (opdOf o).map some) = some hi := by
 replace h := aG1 h rfl
 unfold a91 at h
 split at h
 case h_15 t a l r =>
  simp only [oE] at h
  obtain ⟨vx, hx, vlo, hlo, vhi, hhi, h⟩ := h
  rw [bp6] at hlo hhi
  split at h
  ·cases h
  ·rename_i el ht
   simp only [oM, VOp.slSl.injEq] at h
   obtain ⟨sh', hsh, rfl, rfl, rfl, rfl⟩ := h
   exact ⟨t, el, a, l, r, rfl, ht, hsh, hx, hlo, hhi⟩
  ·cases h
 all_goals exfalso
 all_goals try (simp at h; done)
 all_goals (repeat' split at h)
 all_goals try (simp at h; done)
 all_goals (simp only [oE] at h; obtain ⟨_, _, h⟩ := h)
 all_goals try (simp at h; done)
 all_goals (repeat' split at h)
 all_goals try (simp at h; done)
 all_goals (simp only [oE] at h; obtain ⟨_, _, h⟩ := h)
 all_goals try (simp at h; done)
 all_goals (repeat' split at h)
 all_goals try (simp at h; done)
 all_goals (simp only [oE] at h; obtain ⟨_, _, h⟩ := h)
 all_goals try (simp at h; done)
 all_goals (repeat' split at h)
 all_goals try (simp at h; done)
 all_goals (simp only [oE] at h; obtain ⟨_, _, h⟩ := h)
 all_goals try (simp at h; done)
 all_goals (repeat' split at h)
 all_goals try (simp at h; done)
 all_goals (simp only [oE] at h; obtain ⟨_, _, h⟩ := h)
 all_goals try (simp at h; done)
 all_goals (repeat' split at h)
 all_goals try (simp at h; done)
theorem bq4 [Mode] {P : Program} {op : Op} {f : FuncId} {args : List VA} (h : bj3 P op = some (.call f args)) : ∃ xs ts, op = .call { callee := .value (.func f), args := xs, argTypes := ts } ∧ xs.toList.mapM opdOf = some args := by
 replace h := aG1 h rfl
 unfold a91 at h
 split at h
 case h_29 =>
  simp only [oM, VOp.call.injEq] at h
  obtain ⟨xs, hx, rfl, rfl⟩ := h
  exact ⟨_, _, rfl, hx⟩
 all_goals exfalso
 all_goals try (simp at h; done)
 all_goals (repeat' split at h)
 all_goals try (simp at h; done)
 all_goals (simp only [oE] at h; obtain ⟨_, _, h⟩ := h)
 all_goals try (simp at h; done)
 all_goals (repeat' split at h)
 all_goals try (simp at h; done)
 all_goals (simp only [oE] at h; obtain ⟨_, _, h⟩ := h)
 all_goals try (simp at h; done)
 all_goals (repeat' split at h)
 all_goals try (simp at h; done)
 all_goals (simp only [oE] at h; obtain ⟨_, _, h⟩ := h)
 all_goals try (simp at h; done)
 all_goals (repeat' split at h)
 all_goals try (simp at h; done)
 all_goals (simp only [oE] at h; obtain ⟨_, _, h⟩ := h)
 all_goals try (simp at h; done)
 all_goals (repeat' split at h)
 all_goals try (simp at h; done)
 all_goals (simp only [oE] at h; obtain ⟨_, _, h⟩ := h)
 all_goals try (simp at h; done)
 all_goals (repeat' split at h)
 all_goals (simp at h; done)
theorem bj7 [Mode] {P : Program} {op : Op} {x : VA} {args : List VA} (h : bj3 P op = some (.callv x args)) : ∃ t xs ts, x = .t t ∧ op = .call { callee := .value (.tmp t), args := xs, argTypes := ts } ∧ xs.toList.mapM opdOf = some args := by
 replace h := aG1 h rfl
 unfold a91 at h
 split at h
 case h_30 =>
  simp only [oM, VOp.callv.injEq] at h
  obtain ⟨xs, hx, rfl, rfl⟩ := h
  exact ⟨_, _, _, rfl, rfl, hx⟩
 all_goals exfalso
 all_goals try (simp at h; done)
 all_goals (repeat' split at h)
 all_goals try (simp at h; done)
 all_goals (simp only [oE] at h; obtain ⟨_, _, h⟩ := h)
 all_goals try (simp at h; done)
 all_goals (repeat' split at h)
 all_goals try (simp at h; done)
 all_goals (simp only [oE] at h; obtain ⟨_, _, h⟩ := h)
 all_goals try (simp at h; done)
 all_goals (repeat' split at h)
 all_goals try (simp at h; done)
 all_goals (simp only [oE] at h; obtain ⟨_, _, h⟩ := h)
 all_goals try (simp at h; done)
 all_goals (repeat' split at h)
 all_goals try (simp at h; done)
 all_goals (simp only [oE] at h; obtain ⟨_, _, h⟩ := h)
 all_goals try (simp at h; done)
 all_goals (repeat' split at h)
 all_goals try (simp at h; done)
 all_goals (simp only [oE] at h; obtain ⟨_, _, h⟩ := h)
 all_goals try (simp at h; done)
 all_goals (repeat' split at h)
 all_goals (simp at h; done)
section
variable {P : Program} {w0 : Base} {I0 : Prot} {get : Nat → Option HV} {row : ad1} {a : Act} {w : World} {I : Prot} {ρ : Nat → Option Loc} {ops : Array Oper} {Q : Exit → Act → World → Prop}
theorem RepA.eval [Mode] (hr : RepA w0 I0 get row a w I ρ) (x : Operand) (vx : VA) (h : HV) (hx : opdOf x = some vx) (hg : vx.get get = some h) : RepH w I ρ h (a.eval x) := by
 cases x with
 | tmp t =>
  simp only [opdOf] at hx
  split at hx
  ·rename_i ht
   simp only [oI] at hx
   subst hx
   exact (hr.tm t h hg ht).2
  ·cases hx
 | const v =>
  simp only [opdOf] at hx
  split at hx
  ·rename_i hc
   simp only [oI] at hx
   subst hx
   simp only [VA.get, oI] at hg
   subst hg
   exact .pv (closed_rep hc)
  ·cases hx
 | global g =>
  simp only [opdOf] at hx
  split at hx
  ·rename_i hc
   simp only [oI] at hx
   subst hx
   simp only [VA.get, oI] at hg
   subst hg
   have := (hr.mem.tab hc.1 g hc.2).mono hr.mem.agr hr.mem.i0 (fun b hb => by cases hb)
   exact .pv this
  ·cases hx
 | func f =>
  simp only [opdOf, oI] at hx
  subst hx
  simp only [VA.get, oI] at hg
  subst hg
  exact .pv (.fn f (F := []) (caps := []) (vs := #[]) .nil)
theorem RepA.put [Mode] (hr : RepA w0 I0 get row a w I ρ) {row' : ad1} {w' : World} {I' : Prot} {ρ' : Nat → Option Loc} {ids : Nat → Prop} (hm : Mem w0 I0 row' w' I' ρ') (hg : Grow w I ρ w' I' ρ' ids) {dst : Option Nat} {h : HV} {v : Value}
  (hv : RepH w' I' ρ' h v) (hd : ∀ d, dst = some d → d < a.tmps.size ∧ d < 1000000) : RepA w0 I0 (aW1 get dst h) row' (a.put dst v) w' I' ρ' := by
 refine ⟨hm, fun s x hx hs => ?_, fun s x hx hs => ?_, ?_⟩
 ·unfold aW1 at hx
  cases dst with
  | none =>
   simp at hx
   obtain ⟨h1, h2⟩ := hr.tm s x hx hs
   exact ⟨h1, hg.H h2⟩
  | some d =>
   by_cases hds : d = s
   ·subst hds
    simp at hx; subst hx
    have hlt := (hd d rfl).1
    refine ⟨by simpa [Act.put] using hlt, ?_⟩
    have : (a.put (some d) v).tmps.getD d undef = v := by simp [Act.put, Array.getD, hlt]
    rw [this]; exact hv
   ·simp [hds] at hx
    obtain ⟨h1, h2⟩ := hr.tm s x hx hs
    refine ⟨by simpa [Act.put] using h1, ?_⟩
    have : (a.put (some d) v).tmps.getD s undef = a.tmps.getD s undef := by
     simp [Act.put, Array.getElem?_setIfInBounds_ne hds]
    rw [this]; exact hg.H h2
 ·have hx' : get s = some x := by
   unfold aW1 at hx
   cases dst with
   | none => simpa using hx
   | some d =>
    have : d ≠ s := by have := (hd d rfl).2; omega
    simpa [this] using hx
  obtain ⟨h1, v', h2, h3, h4⟩ := hr.gh s x hx' hs
  exact ⟨h1, v', h2, hg.H h3, fun id l q1 q2 => hg.rho _ _ (h4 id l q1 q2)⟩
 ·cases dst <;> simp [Act.put, hr.df]
theorem RepA.grow [Mode] (hr : RepA w0 I0 get row a w I ρ) {row' : ad1} {w' : World} {I' : Prot} {ρ' : Nat → Option Loc} {ids : Nat → Prop} (hm : Mem w0 I0 row' w' I' ρ') (hg : Grow w I ρ w' I' ρ' ids) : RepA w0 I0 get row' a w' I' ρ' :=
 ⟨hm, fun s h hs h6 => ⟨(hr.tm s h hs h6).1, hg.H (hr.tm s h hs h6).2⟩, fun s h hs h6 => let ⟨h1, v, h2, h3, h4⟩ := hr.gh s h hs h6; ⟨h1, v, h2, hg.H h3, fun id l q1 q2 => hg.rho _ _ (h4 id l q1 q2)⟩, hr.df⟩
theorem RepA.real [Mode] (hr : RepA w0 I0 get row a w I ρ) {s : Nat} {h : HV} (hs : get s = some h) (hn : ∀ l, h ≠ .tup l) : s < 1000000 := Classical.byContradiction fun hc => by
 obtain ⟨⟨l, he⟩, _⟩ := hr.gh s h hs (by omega)
 exact hn l he
theorem bq5 (a : Act) (dst : Option Nat) (v : Value) : (a.put dst v).tmps.size = a.tmps.size := by cases dst <;> simp [Act.put]
theorem bE4 [Mode] {o : Oper} {vo : VOper} (hm : bJ5 P ops o vo) (hr : RepA w0 I0 get row a w I ρ) {b : Bool} (hb : gOk get vo.guard = some b) : Region.wanted o (yielded ops a.tmps) = b := by
 rcases hm.guard with ⟨h1, h2⟩ | ⟨j, t, want, h1, h2, h3⟩
 ·rw [h2] at hb
  simp [gOk] at hb
  subst hb
  simp [Region.wanted, h1]
 ·rw [h3] at hb
  simp only [gOk] at hb
  unfold Region.wanted
  rw [h1]
  simp only
  split at hb
  ·rename_i c hc
   have ht : t < 1000000 := Classical.byContradiction fun hn => by
    obtain ⟨⟨_, he⟩, _⟩ := hr.gh t _ hc (Nat.le_of_not_lt hn)
    cases he
   obtain ⟨hlt, hrep⟩ := hr.tm t _ hc ht
   have hv := hrep.bool_inv
   have hy : yielded ops a.tmps j = some c := by
    unfold yielded
    rw [h2]
    simp only [oB]
    have : a.tmps[t]? = some (.bool c) := by
     simp [Array.getD, hlt] at hv
     simp [hlt, hv]
    rw [this]
   rw [hy]
   simp only [oI] at hb
   rw [← hb]
   cases c <;> cases want <;> rfl
  ·rename_i hc
   have ht : t < 1000000 := Classical.byContradiction fun hn => by
    obtain ⟨⟨_, he⟩, _⟩ := hr.gh t _ hc (Nat.le_of_not_lt hn)
    cases he
   obtain ⟨hlt, hrep⟩ := hr.tm t _ hc ht
   have hv : a.tmps.getD t undef = undef := by
    generalize a.tmps.getD t undef = v at hrep
    cases hrep; rfl
   have hy : yielded ops a.tmps j = none := by
    unfold yielded
    rw [h2]
    simp only [oB]
    have : a.tmps[t]? = some undef := by
     simp [Array.getD, hlt] at hv
     simp [hlt, hv]
    rw [this]
    rfl
   rw [hy]
   simp only [oI] at hb
   rw [← hb]
   cases want <;> rfl
  ·cases hb
theorem bq6 [Mode] {f : FuncId} {vs : Array Value} {id id0 : Nat} {T e : TypeId} {bs bs' : List UInt8} {ps : List PV} {r : PV} (_hP : w0.P = P) (hm : Mem w0 I0 row w I ρ) (hr : RepHs w I ρ (.optr id 0 0 :: ps.map .pv) vs.toList) (hrow : row id = some (.b T e bs)) (hb : BuilderOK P f T e bs ps r bs') :
  Calls P f vs w fun x w' => ∃ v I' ρ', x = .returned v ∧ Mem w0 I0 (ae8 row [(id, some (.b T e bs'))]) w' I' ρ' ∧ RepH w' I' ρ' (ah7 id0 r).1 v ∧ Grow w I ρ w' I' ρ' (fun k => id0 ≤ k ∧ k < id0 + 4) := by
 obtain ⟨g, n, sh, hρ, hB, heb, hyo⟩ := hm.bld id T e bs hrow
 obtain ⟨l, hl, hrr⟩ := hm.rows id _ hrow
 rw [hρ] at hl
 simp only [oI] at hl; subst hl
 obtain ⟨hsh, _, cur, t, us, hg, hn, hus, hp, _⟩ := hrr
 obtain ⟨o1, o2, o3⟩ := hm.own id _ g n sh hrow hρ
 have hBg : ∀ {w2 : World} {bs2 : List UInt8}, Go.Lib.IsBuilderF T e w0.w.heap.size g (Go.Lib.byteCells bs2) w2 → ∃ p v, w2.heap[g]? = some (.cells #[p, v] T (0, 0)) ∧ w0.w.heap.size ≤ g := by
  intro w2 bs2 h
  rcases h with ⟨q1, v, q2, _⟩ | ⟨q1, v, q2, _⟩
  ·exact ⟨_, v, q2, q1⟩
  ·exact ⟨_, v, q2, q1⟩
 obtain ⟨p0, v0, hg0, hge⟩ := hBg hB
 have hn2 : n = 2 ∧ t = T := by
  rw [hg0] at hg
  cases hg
  exact ⟨by rw [← hn]; rfl, rfl⟩
 obtain ⟨rfl, rfl⟩ := hn2
 obtain ⟨a0, as, hva, hr0, hrs⟩ : ∃ a0 as, vs.toList = a0 :: as ∧ RepH w I ρ (.optr id 0 0) a0 ∧ RepHs w I ρ (ps.map .pv) as := by
  generalize vs.toList = l at hr
  cases hr with
  | cons h1 h2 => exact ⟨_, _, rfl, h1, h2⟩
 have ha0 : a0 = .pointer (some ⟨g, 0, none⟩) := by
  obtain ⟨g', n', sh', q1, q2⟩ := hr0.optr_inv
  rw [hρ] at q1
  cases q1
  simpa using q2
 have hvs : vs = (Value.pointer (some ⟨g, 0, none⟩) :: as).toArray := by
  apply Array.ext'
  rw [hva, ha0]
 rw [hvs]
 refine (hb.calls w w0.w.heap.size g as I hm.bel.size hB hrs.toP).mono ?_
 rintro x w' ⟨v, rfl, hv, hB', hbel, hoth⟩
 obtain ⟨p1, v1, hg1, _⟩ := hBg hB'
 have hnb : ∀ b, b < w.heap.size → b ≠ g → nb w0.P w b → w'.heap[b]? = w.heap[b]? := by
  intro b hlt hne hnbb
  have hh : w.heap[b]? = some w.heap[b] := Array.getElem?_eq_getElem hlt
  rw [hh]
  refine hoth b _ hh (fun e1 => hne (by cases e1; rfl)) fun c fz hc => ?_
  have := hnbb c e fz (by rw [hh, hc])
  rw [heb] at this; cases this
 have hold : ∀ b, ¬ w0.New b → w'.heap[b]? = w.heap[b]? := fun b hb => hbel.block b (by
  unfold Base.New at hb
  omega)
 have hag : Agree w w' I := by
  intro b o hib
  by_cases hN : w0.New b
  ·exact az7 (hnb b (hm.lt b o hib) (fun e1 => o3 o (Nat.zero_le _) (e1 ▸ hib)) (hm.tyI b o hib hN hyo))
  ·exact az7 (hold b hN)
 have hnbk : ∀ b, b < w.heap.size → nb w0.P w b → nb w0.P w' b := by
  intro b h1 h2
  by_cases hbg : b = g
  ·subst hbg
   intro c t' fz hc
   rw [hg1] at hc
   cases hc
   exact hm.tyR id _ b 2 sh hrow hρ hyo _ _ _ hg0
  ·exact h2.same (hnb b h1 hbg h2)
 have hrows : ∀ k x g' n' sh', row k = some x → k ≠ id → ρ k = some (.blk g' n' sh') → w'.heap[g']? = w.heap[g']? := by
  intro k x g' n' sh' hx hk hρk
  exact hnb g' (hm.own k x g' n' sh' hx hρk).2.1 (fun e1 => hk (hm.inj k id x _ g' n' 2 sh' sh hx hrow hρk (by rw [hρ, e1]))) (hm.tyR k x g' n' sh' hx hρk hyo)
 have hlive : ∀ k x, ae8 row [(id, some (.b t e bs'))] k = some x → (k = id ∧ x = .b t e bs') ∨ (k ≠ id ∧ row k = some x) := by
  intro k x hx
  unfold ae8 look at hx
  by_cases hk : id = k
  ·simp [hk] at hx; exact .inl ⟨hk.symm, hx.symm⟩
  ·simp [hk, look] at hx; exact .inr ⟨Ne.symm hk, hx⟩
 have hw : ∀ k x, ae8 row [(id, some (.b t e bs'))] k = some x → ∃ y, row k = some y := by
  intro k x hx
  rcases hlive k x hx with ⟨rfl, _⟩ | ⟨_, hx⟩
  ·exact ⟨_, hrow⟩
  ·exact ⟨_, hx⟩
 refine ⟨v, I, ρ, rfl, { bel := ?_, agr := hm.agr.trans hag hm.i0, i0 := hm.i0, lt := fun b o hb' => lt_of_lt_of_le (hm.lt b o hb') hbel.size, new := hm.new, nn := ?_, tyF := fun b hb' => ⟨(hm.tyF b hb').1, hnbk b (lt_of_lt_of_le (hm.tyF b hb').1 hm.bel.size) (hm.tyF b hb').2⟩, rows := ?_, own := ?_, inj := ?_, tyI := fun b o hb' hN _ => hnbk b (hm.lt b o hb') (hm.tyI b o hb' hN hyo), tyR := ?_, bld := ?_, one := ?_, glob := hm.glob, tab := hm.tab }, ?_, ⟨hag, fun _ _ h => h, fun _ _ h => h, fun _ h _ => h⟩⟩
 ·exact ⟨hbel.os.trans hm.bel.os, hbel.tape.trans hm.bel.tape, hbel.output.trans hm.bel.output, Nat.le_trans hm.bel.size hbel.size, fun k h1 h2 => (hbel.block k h1).trans (hm.bel.block k h1 h2)⟩
 ·intro b k hb'
  obtain ⟨n1, n2, n3, n4⟩ := hm.nn b k hb'
  refine ⟨n1, lt_of_lt_of_le n2 hbel.size, hnbk b n2 n3, fun k x n' sh' hx => ?_⟩
  obtain ⟨y, hy⟩ := hw k x hx
  exact n4 k y n' sh' hy
 ·intro k x hx
  rcases hlive k x hx with ⟨rfl, rfl⟩ | ⟨hk, hx⟩
  ·refine ⟨_, hρ, hsh, by simp [Row.es], #[p1, v1], t, [], hg1, rfl, by simpa [Row.flat, Row.es] using RepHs.nil, by simp, Tails.nil _ _ _ _ _ _⟩
  ·obtain ⟨l, h1, h2⟩ := hm.rows k x hx
   refine ⟨l, h1, h2.mono hag (fun _ _ h => h) (fun _ _ h => h) fun g' n' sh' hl => ?_⟩
   subst hl
   refine ⟨hrows k x g' n' sh' hx hk h1, fun _ b hb' => ?_⟩
   obtain ⟨n1, n2, n3, n4⟩ := hm.nn b g' hb'
   exact ⟨hb', hnb b n2 (fun e1 => n4 id _ 2 sh hrow (e1 ▸ hρ)) n3, fun _ h => h⟩
 ·intro k x g' n' sh' hx hk
  rcases hlive k x hx with ⟨rfl, rfl⟩ | ⟨hne, hx⟩
  ·obtain ⟨q1, q2, q3⟩ := hm.own k _ g' n' sh' hrow hk
   exact ⟨q1, lt_of_lt_of_le q2 hbel.size, fun o _ => q3 o (Nat.zero_le _)⟩
  ·obtain ⟨q1, q2, q3⟩ := hm.own k x g' n' sh' hx hk
   exact ⟨q1, lt_of_lt_of_le q2 hbel.size, q3⟩
 ·intro k k' x x' g' n' n'' sh' sh'' hx hx' hk hk'
  obtain ⟨y, hy⟩ := hw k x hx
  obtain ⟨y', hy'⟩ := hw k' x' hx'
  exact hm.inj k k' y y' g' n' n'' sh' sh'' hy hy' hk hk'
 ·intro k x g' n' sh' hx hk
  rcases hlive k x hx with ⟨rfl, rfl⟩ | ⟨hne, hx⟩
  ·rw [hρ] at hk
   cases hk
   intro _ c t' fz hc
   rw [hg1] at hc
   cases hc
   exact hm.tyR k _ g 2 sh hrow hρ hyo _ _ _ hg0
  ·exact (hm.tyR k x g' n' sh' hx hk).same (hrows k x g' n' sh' hx hne hk)
 ·intro k T' e' bs2 hx
  rcases hlive k _ hx with ⟨rfl, e1⟩ | ⟨hne, hx⟩
  ·cases e1
   exact ⟨g, 2, sh, hρ, hB', heb, hyo⟩
  ·exact absurd (hm.one k id T' e' bs2 t e bs hx hrow) hne
 ·intro k k' T1 e1 b1 T2 e2 b2 hx hx'
  rcases hlive k _ hx with ⟨rfl, _⟩ | ⟨hne, hx⟩ <;> rcases hlive k' _ hx' with ⟨rfl, _⟩ | ⟨hne', hx'⟩
  ·rfl
  ·exact hm.one k k' t e bs T2 e2 b2 hrow hx'
  ·exact hm.one k k' T1 e1 b1 t e bs (by assumption) hrow
  ·exact hm.one k k' T1 e1 b1 T2 e2 b2 hx hx'
 ·have hone := hb.one.2 id0
  have h3 : RepP w' I r v [] := hv.mono (fun b o hb' => False.elim hb') (fun b o hb' => False.elim hb') (by simp)
  exact bv2 hb.one.1 hone h3
theorem bm0 [Mode] (hP : w0.P = P) {i : Nat} {o : Oper} {vo : VOper} {id0 : Nat} {h : HV} {upd : Upd} (hi : ops[i]? = some o) (hm : bJ5 P ops o vo) (hr : RepA w0 I0 get row a w I ρ) (hev : EvOK P vo id0 get row h upd)
  (hfree : ∀ k, id0 ≤ k → k < id0 + 4 → ρ k = none) (hdst : ∀ d, vo.dst = some d → d < a.tmps.size ∧ d < 1000000) {K : Act → World → Prop}
  (hK : ∀ a' w' I' ρ', RepA w0 I0 (aW1 get vo.dst h) (ae8 row upd) a' w' I' ρ' → a'.tmps.size = a.tmps.size → (∀ k, ρ k = none → ¬ (id0 ≤ k ∧ k < id0 + 4) → ρ' k = none) → K a' w') :
  wpOp P ops Q i K a w := by
 unfold wpOp
 simp only [hi]
 unfold EvOK at hev
 have hdst' : ∀ d, o.dst = some d → d < a.tmps.size ∧ d < 1000000 := by rw [hm.dst]; exact hdst
 cases hg : gOk get vo.guard with
 | none => rw [hg] at hev; exact hev.elim
 | some b =>
  rw [hg] at hev
  have hw := bE4 hm hr hg
  cases b with
  | false =>
   obtain ⟨rfl, rfl⟩ := hev
   simp only [hw, Bool.false_eq_true, if_false]
   refine hK _ _ I ρ ?_ (bq5 _ _ _) (fun k hk _ => hk)
   rw [← hm.dst]
   exact hr.put hr.mem (Grow.refl (ids := fun _ => False)) .undef hdst'
  | true =>
   simp only [hw, if_true]
   refine .inl ?_
   have hrow0 : row id0 = none := by
    cases hx : row id0 with
    | none => rfl
    | some r => obtain ⟨l, h1, _⟩ := hr.mem.rows id0 r hx; rw [hfree id0 (Nat.le_refl _) (by omega)] at h1; cases h1
   simp only at hev
   have fz : ∀ {h0 : HV} {upd0 : Upd} (v : Value) (w' : World) (I' : Prot) (ρ' : Nat → Option Loc), Mem w0 I0 (ae8 row upd0) w' I' ρ' → RepH w' I' ρ' h0 v → Grow w I ρ w' I' ρ' (fun k => id0 ≤ k ∧ k < id0 + 4) →
     ((h0 = h ∧ upd0 = upd) ∨ ∃ sh es tk len, h0 = .osl id0 0 len ∧ upd0 = (id0, some (.p sh es tk)) :: upd ∧ len ≤ es.length ∧ look upd id0 = none ∧ h = .pv (.sl sh (es.take len))) → K (a.put o.dst v) w' := by
    intro h0 upd0 v w' I' ρ' m1 r1 g1 hc
    rcases hc with ⟨rfl, rfl⟩ | ⟨sh, es, tk, len, rfl, rfl, hle, hlk, rfl⟩
    ·refine hK _ _ I' ρ' ?_ (bq5 _ _ _) g1.dom
     rw [← hm.dst]
     exact hr.put m1 g1 r1 hdst'
    ·obtain ⟨I2, m2, r2, hi⟩ := a44 m1 r1 hle hlk hrow0
     have g2 : Grow w I ρ w' I2 ρ' (fun k => id0 ≤ k ∧ k < id0 + 4) := ⟨g1.agree, fun b o hb => hi b o (g1.mono b o hb), g1.rho, g1.dom⟩
     refine hK _ _ I2 ρ' ?_ (bq5 _ _ _) g2.dom
     rw [← hm.dst]
     exact hr.put m2 g2 r2 hdst'
   have plainDone : (Done P w0 I0 row w I ρ id0 (execOp a.eval o) h upd) → o.wp P a w K Q := by
    rintro ⟨nx, v, w', I', ρ', hrun, hnx, m1, r1, g1⟩
    unfold Oper.wp
    rw [hrun]
    rcases hnx with rfl | ⟨rfl, rfl⟩
    ·rw [Oper.upon_value]
     exact fz _ w' I' ρ' m1 r1 g1 (.inl ⟨rfl, rfl⟩)
    ·rw [Oper.upon_skip]
     exact fz _ w' I' ρ' m1 r1 g1 (.inl ⟨rfl, rfl⟩)
   have hev : (∃ x, vo.op = .load none x ∧ bp0 x id0 get row h upd) ∨ (∃ sh x v, vo.op = .store sh x v ∧ Mode.y = false ∧ b97 sh x v get row h upd) ∨
     (∃ sh n x y, vo.op = .append sh n x y ∧ b98 sh x y get row h upd) ∨ (∃ sh x lo hi, vo.op = .slSl sh x lo hi ∧ bI4 sh x lo hi get row h upd) ∨ (ak1 vo.op = false ∧ af6 vo.op = false ∧ Mode.y = false ∧ bC0 vo.op id0 get row h upd) ∨
     (OpEv0 P vo.op id0 get row h upd ∨ ∃ sh es tk len, OpEv0 P vo.op id0 get row (.osl id0 0 len) ((id0, some (.p sh es tk)) :: upd) ∧ len ≤ es.length ∧ look upd id0 = none ∧ h = .pv (.sl sh (es.take len))) := by
    rcases hev with hev | hev | hev | hev | hev | hev | hev
    ·exact .inr (.inr (.inr (.inr (.inr (.inl hev)))))
    ·exact .inr (.inr (.inr (.inr (.inr (.inr hev)))))
    ·exact .inl hev
    ·exact .inr (.inl hev)
    ·exact .inr (.inr (.inl hev))
    ·exact .inr (.inr (.inr (.inl hev)))
    ·exact .inr (.inr (.inr (.inr (.inl hev))))
   have hopOf : vo.op ≠ .bad → bj3 P o.op = some vo.op := fun hb => by
    rcases hm.op with h1 | h1
    ·exact absurd h1 hb
    ·exact h1
   rcases hev with ⟨x, hvo, ht⟩ | ⟨sh, x, v, hvo, hyo, ht⟩ | ⟨sh, n, x, y, hvo, ht⟩ | ⟨sh, x, lo, hi, hvo, ht⟩ | ⟨hc1, hc2, hyo, h0, qs, q1, q2, q3, rfl, q5⟩ | hev
   ·obtain ⟨t, y, ho, hsh, hx⟩ := bq2 (by rw [← hvo]; exact hopOf (by rw [hvo]; simp))
    refine plainDone ?_
    have := bq1 (P := P) (fun x vx h h1 h2 => hr.eval x vx h h1 h2) hr.mem hfree hsh hx ht
    simpa [execOp, ho] using this
   ·obtain ⟨t, y, z, ho, hsh, hx, hy⟩ := bj6 (by rw [← hvo]; exact hopOf (by rw [hvo]; simp))
    refine plainDone ?_
    have := bD9 (P := P) (id0 := id0) (fun x vx h h1 h2 => hr.eval x vx h h1 h2) hr.mem hyo hsh hx hy ht
    simpa [execOp, ho] using this
   ·obtain ⟨a', b', t, e, i, ho, h1, h2, h3, hx, hy⟩ := bd3 (by rw [← hvo]; exact hopOf (by rw [hvo]; simp))
    refine plainDone ?_
    have := bE0 (P := P) (id0 := id0) (ty := o.type) (fun x vx h h1 h2 => hr.eval x vx h h1 h2) hr.mem h1 h2 h3 hx hy ht
    have hex : execOp a.eval o = (do pure (.value (← Builtin.append_ #[t, t] o.type #[a.eval a', a.eval b']))) := by simp [execOp, ho, resolve, invoke, builtin]
    rw [hex]; exact this
   ·obtain ⟨t, e, x', lo', hi', ho, h1, h2, hx, hlo, hhi⟩ := bq3 (by rw [← hvo]; exact hopOf (by rw [hvo]; simp))
    refine plainDone ?_
    have := bv4 (P := P) (id0 := id0) (fun x vx h h1 h2 => hr.eval x vx h h1 h2) hr.mem h1 h2 hx hlo hhi ht
    simpa [execOp, ho] using this
   ·have hop : bj3 P o.op = some vo.op := by
     rcases hm.op with hb | hb
     ·rw [hb] at q1; simp [aa5] at q1
     ·exact hb
    exact plainDone (cn6 hyo (bd1 (fun x vx h h1 h2 => hr.eval x vx h h1 h2) hr.mem hfree hP o hop q1) q2 q3 q5)
   have hev' : ∃ h0 upd0, OpEv0 P vo.op id0 get row h0 upd0 ∧ ((h0 = h ∧ upd0 = upd) ∨ ∃ sh es tk len, h0 = .osl id0 0 len ∧ upd0 = (id0, some (.p sh es tk)) :: upd ∧ len ≤ es.length ∧ look upd id0 = none ∧ h = .pv (.sl sh (es.take len))) := by
    rcases hev with hev | ⟨sh, es, tk, len, h1, h2, h3, h4⟩
    ·exact ⟨h, upd, hev, .inl ⟨rfl, rfl⟩⟩
    ·exact ⟨_, _, h1, .inr ⟨sh, es, tk, len, rfl, rfl, h2, h3, h4⟩⟩
   clear hev
   obtain ⟨h0, upd0, hev, hcc⟩ := hev'
   unfold OpEv0 at hev
   split at hev
   ·rename_i hc
    obtain ⟨f, hs, h1, hev⟩ := hev
    have h3 : ∀ (args : Array Value) (w : World), (callFunc f args).run P w = .ok (.enter f args) w := by
     rcases hev with ⟨gs, ds, r, fl, _, h3, _⟩ | ⟨id, T, e, bs, ps, r, bs', _, _, h3, _⟩ | ⟨rs, h3, _⟩
     ·exact h3.enter
     ·exact h3.enter
     ·exact h3.enter
    have key : ∀ vs : Array Value, (execOp a.eval o).run P w = .ok (.enter f vs) w → RepHs w I ρ hs vs.toList → o.wp P a w K Q := by
     intro vs hex hvs
     unfold Oper.wp
     rw [hex, Oper.upon_enter]
     rcases hev with ⟨gs, ds, r, fl, h2, h3, h4, h5, h6, h7, rfl, rfl⟩ | ⟨id, T, e, bs, ps, r, bs', rfl, h2, h3, rfl, rfl⟩ | ⟨rs, h2, h3⟩
     ·refine (bP8 hP hr.mem hvs h2 h3 h4 h5.1 h5.2 h6 h7 hfree).mono ?_
      rintro e w' ⟨v, I', ρ', rfl, m1, r1, g1⟩
      exact fz v w' I' ρ' m1 r1 g1 hcc
     ·refine (bq6 (id0 := id0) hP hr.mem hvs h2 h3).mono ?_
      rintro e w' ⟨v, I', ρ', rfl, m1, r1, g1⟩
      exact fz v w' I' ρ' m1 r1 g1 hcc
     ·refine (h2.calls w0 I0 row w I ρ vs hP hr.mem hvs (fun q hq => (h3 q hq).1) hfree).mono ?_
      rintro e w' ⟨v, I', ρ', rfl, m1, r1, g1⟩
      exact fz v w' I' ρ' m1 r1 g1 hcc
    have hop : bj3 P o.op = some vo.op := by
     rcases hm.op with hb | hb
     ·rw [hb] at hc; simp [ak1] at hc
     ·exact hb
    cases hvop : vo.op with
    | call f' args =>
     rw [hvop] at h1 hop
     simp only [ar9, oM, pJ] at h1
     obtain ⟨hs', hhs, rfl, rfl⟩ := h1
     have := bq4 hop
     obtain ⟨xs, ts, ho, hx⟩ := this
     refine key (xs.map a.eval) ?_ ?_
     ·have he := h3 (xs.map a.eval) w
      simp [execOp, ho, resolve, Act.eval, Deferred.ofValue, invoke]
      simpa [Act.eval] using he
     ·have := aZ3 (fun x vx h h1 h2 => hr.eval x vx h h1 h2) hx hhs
      simpa using this
    | callv x args =>
     rw [hvop] at h1 hop
     have := bj7 hop
     obtain ⟨t, xs, ts, rfl, ho, hx⟩ := this
     have hfn : ∃ hs' first fv caps cv, args.mapM (VA.get get) = some hs' ∧ hs = first ++ (hs' ++ caps) ∧ a.eval (.tmp t) = .func (.func f) fv cv ∧ RepHs w I ρ first fv.toList ∧ RepHs w I ρ caps cv.toList := by
      simp only [ar9] at h1
      split at h1
      ·rename_i f' caps hxt
       simp only [oM, pJ] at h1
       obtain ⟨hs', hhs, rfl, rfl⟩ := h1
       have hrep : RepH w I ρ _ (a.eval (.tmp t)) := (hr.tm t _ hxt (hr.real hxt (by simp))).2
       generalize a.eval (.tmp t) = v at hrep ⊢
       cases hrep with | pv hrep => cases hrep with
       | fn _ hc => exact ⟨_, [], #[], _, _, hhs, rfl, rfl, .nil, hc.toH rfl⟩
      ·rename_i f' first hxt
       simp only [oM, pJ] at h1
       obtain ⟨hs', hhs, rfl, rfl⟩ := h1
       have hrep : RepH w I ρ _ (a.eval (.tmp t)) := (hr.tm t _ hxt (hr.real hxt (by simp))).2
       generalize a.eval (.tmp t) = v at hrep ⊢
       cases hrep with | pv hrep => cases hrep with
       | bfn _ hc => exact ⟨_, _, _, [], #[], hhs, by simp, rfl, hc.toH rfl, .nil⟩
      ·rename_i f' caps hxt
       simp only [oM, pJ] at h1
       obtain ⟨hs', hhs, rfl, rfl⟩ := h1
       have hrep : RepH w I ρ _ (a.eval (.tmp t)) := (hr.tm t _ hxt (hr.real hxt (by simp))).2
       generalize a.eval (.tmp t) = v at hrep ⊢
       cases hrep with
       | fn _ hc => exact ⟨_, [], #[], _, _, hhs, rfl, rfl, .nil, hc⟩
      ·cases h1
     obtain ⟨hs', first, fv, caps, cv, hhs, rfl, hev2, hfirst, hcaps⟩ := hfn
     refine key (fv ++ xs.map a.eval ++ cv) ?_ ?_
     ·have he := h3 (fv ++ xs.map a.eval ++ cv) w
      simp [execOp, ho, resolve, hev2, Deferred.ofValue, invoke]
      simpa using he
     ·have := aZ3 (fun x vx h h1 h2 => hr.eval x vx h h1 h2) hx hhs
      simpa using hfirst.append (this.append hcaps)
    | _ => rw [hvop] at hc; simp [ak1] at hc
   ·rename_i hc
    have hop : bj3 P o.op = some vo.op := by
     rcases hm.op with hb | hb
     ·rw [hb] at hev; simp [aa5, af6] at hev
     ·exact hb
    have hdone : Done P w0 I0 row w I ρ id0 (execOp a.eval o) h0 upd0 := by
     split at hev
     ·obtain ⟨T, e, hvo, rfl, rfl, hno⟩ := hev
      rw [hvo] at hop
      exact bv0 hr.mem hfree hP o hop hno
     ·exact bd1 (fun x vx h h1 h2 => hr.eval x vx h h1 h2) hr.mem hfree hP o hop hev
    obtain ⟨nx, v, w', I', ρ', hrun, hnx, m1, r1, g1⟩ := hdone
    unfold Oper.wp
    rw [hrun]
    rcases hnx with rfl | ⟨rfl, rfl⟩
    ·rw [Oper.upon_value]
     exact fz _ w' I' ρ' m1 r1 g1 hcc
    ·rw [Oper.upon_skip]
     exact fz _ w' I' ρ' m1 r1 g1 hcc
end
end Go.Vm
