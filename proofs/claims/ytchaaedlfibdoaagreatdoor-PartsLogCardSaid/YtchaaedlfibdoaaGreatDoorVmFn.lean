import Derived.Test.YtchaaedlfibdoaaGreatDoorVmCode
open List (all_eq_true)
namespace Go.Vm
open Go.RowKit (Below)
def ax2 (row : Nat → Option Row) : HV → Option (PV × List Nat)
 | .pv p => some (p, [])
 | .osl id 0 len => match row id with
  | some (.p sh es tk) => if len ≤ es.length then (bB9 sh es tk len).map fun p => (p, [id]) else none
  | _ => none
 | _ => none
def aG8 (f : HV → Option (PV × List Nat)) : List HV → Option (List PV × List Nat)
 | [] => some ([], [])
 | h :: r => (f h).bind fun x => (aG8 f r).map fun y => (x.1 :: y.1, x.2 ++ y.2)
def aR6 (row : Nat → Option Row) : HV → Option (PV × List Nat)
 | .agg cs => (aG8 (ax2 row) cs).map fun x => (.agg x.1, x.2)
 | h => ax2 row h
def aR7 (row : Nat → Option Row) : HV → Option (PV × List Nat)
 | .tup cs => (aG8 (aR6 row) cs).map fun x => (.tup x.1, x.2)
 | h => aR6 row h
mutual
inductive Le : PV → PV → Prop
 | refl (p : PV) : Le p p
 | nilSl (sh : Shape) : Le .nilsl (.sl sh [])
 | nilUsl (sh : Shape) : Le .nilsl (.usl sh [])
 | nilDsl (sh : Shape) (cs : List Nat) : Le .nilsl (.dsl sh [] cs)
 | dslU (sh : Shape) (es : List PV) (cs : List Nat) : Le (.dsl sh es cs) (.usl sh es)
 | agg {a b : List PV} (h : Les a b) : Le (.agg a) (.agg b)
 | tup {a b : List PV} (h : Les a b) : Le (.tup a) (.tup b)
inductive Les : List PV → List PV → Prop
 | nil : Les [] []
 | cons {p q : PV} {ps qs : List PV} (h : Le p q) (r : Les ps qs) : Les (p :: ps) (q :: qs)
end
def ao0 : PV → Bool
 | .bool _ => true
 | .int _ _ => true
 | .str _ => true
 | .nilsl => true
 | .esl _ => true
 | .nilptr => true
 | .nilfn => true
 | .niliface => true
 | .sl _ [] => true
 | .usl _ [] => true
 | _ => false
def aB4 : PV → Bool
 | .usl _ es => es.all fun e => e.cells.all ao0
 | p => ao0 p
def aB5 : PV → Bool
 | .agg cs => cs.all aB4
 | p => aB4 p
def ay0 : PV → Bool
 | .tup vs => vs.all aB5
 | p => aB5 p
def at1 : List HV → HV
 | [h] => h
 | hs => .tup hs
def b01 (get : Nat → Option HV) (row : ad1) (x : Nat × Option Shape) : Option HV :=
 match x.2 with
 | none => get x.1
 | some sh => (aa5 (.load sh (.t x.1)) 0 get row).map (·.1)
def aD2 (get : Nat → Option HV) (row : ad1) : List (Nat × Option Shape) → Option (List HV)
 | [] => some []
 | x :: r => (b01 get row x).bind fun h => (aD2 get row r).map fun hs => h :: hs
def retQ [Mode] (rs : List (Nat × Option Shape)) (r : PV) (fl : Bool) : VExit → VSt → Prop
 | .exit _, _ => False
 | _, st => ∃ hs p ids, aD2 (look st.tm) (ae3 st.hp) rs = some hs ∧ aR7 (ae3 st.hp) (at1 hs) = some (p, ids) ∧ ids.Nodup ∧ Le p r ∧ (fl = true → ay0 r = true) ∧ (Mode.y = true → fl = true ∧ ids = [])
def a07 : Nat → List HV → List (Nat × HV)
 | _, [] => []
 | i, d :: r => if i < 1000000 then (i, d) :: a07 (i + 1) r else []
def aP7 (ds : List PV) : VSt := match ds.all aq9 with
 | true => match ag5 ax6 0 ds with
  | (hs, upd, n) => { tm := a07 0 hs, hp := upd, nx := n }
 | false => { tm := [], hp := [], nx := 0 }
section
variable {w : World} {I : Prot}
mutual
theorem RepP.le : ∀ {p q : PV} {v : Value} {F : List Nat}, RepP w I p v F → Le p q → RepP w I q v F
 | _, _, _, _, h, .refl _ => h
 | _, _, _, _, .nilsl, .nilSl sh => .slNil sh
 | _, _, _, _, .nilsl, .nilUsl sh => .uslNil sh
 | _, _, _, _, .nilsl, .nilDsl sh cs => .dslNil sh cs
 | _, _, _, _, .dslNil sh cs, .dslU _ _ _ => .uslNil sh
 | _, _, _, _, .dsl hf h hg hcap hcur hpre _, .dslU _ _ _ => .usl hf h hg hcap hcur hpre
 | _, _, _, _, .agg h, .agg hl => .agg (RepPs.le h hl)
 | _, _, _, _, .tup h, .tup hl => .tup (RepPs.le h hl)
theorem RepPs.le : ∀ {ps qs : List PV} {vs : List Value} {F : List Nat}, RepPs w I ps vs F → Les ps qs → RepPs w I qs vs F
 | _, _, _, _, .nil, .nil => .nil
 | _, _, _, _, .cons h r, .cons h1 r1 => .cons (RepP.le h h1) (RepPs.le r r1)
end
theorem a77 {I' : Prot} {p : PV} {v : Value} {F : List Nat} (h : RepP w I p v F) (hn : ao0 p = true) : RepP w I' p v F := by
 cases h with
 | bool b => exact .bool b
 | int k n => exact .int k n
 | str s => exact .str s
 | agg _ => simp [ao0] at hn
 | tup _ => simp [ao0] at hn
 | nilsl => exact .nilsl
 | slNil sh => exact .slNil sh
 | esl sh a cap => exact .esl sh a cap
 | slE sh a cap => exact .slE sh a cap
 | @sl sh es vs b o cap hI hf hcap h hc =>
  cases es with
  | nil => exact .sl (vs := []) (by simp) (by simp) hcap (by cases h; exact .nil) (by intro i v hv; cases h; simp at hv)
  | cons _ _ => simp [ao0] at hn
 | uslNil sh => exact .uslNil sh
 | @usl sh es vs g cap cur e hf h hg hcap hcur hpre =>
  cases es with
  | nil => exact .usl (by simp) (by cases h; exact .nil) hg hcap hcur hpre
  | cons _ _ => simp [ao0] at hn
 | rptr _ _ _ _ => simp [ao0] at hn
 | dslNil _ _ => simp [ao0] at hn
 | dsl _ _ _ _ _ _ _ => simp [ao0] at hn
 | nilptr => exact .nilptr
 | fn _ _ => simp [ao0] at hn
 | bfn _ _ => simp [ao0] at hn
 | nilfn => exact .nilfn
 | niliface => exact .niliface
theorem aI9 {I' : Prot} {f : PV → Bool} (hf : ∀ {p : PV} {v : Value} {F : List Nat}, RepP w I p v F → f p = true → RepP w I' p v F) : ∀ {ps : List PV} {vs : List Value} {F : List Nat}, RepPs w I ps vs F → ps.all f = true → RepPs w I' ps vs F
 | _, _, _, .nil, _ => .nil
 | _, _, _, .cons h r, ha => by
  simp only [List.all_cons, bA] at ha
  exact .cons (hf h ha.1) (aI9 hf r ha.2)
theorem a78 {I' : Prot} {p : PV} {v : Value} {F : List Nat} (h : RepP w I p v F) (hn : aB4 p = true) : RepP w I' p v F := by
 cases p with
 | usl sh es =>
  cases h with
  | uslNil => exact .uslNil sh
  | usl hf h hg hcap hcur hpre =>
   refine .usl hf (aI9 (f := ao0) a77 h ?_) hg hcap hcur hpre
   simp only [aB4] at hn
   rw [all_eq_true] at hn ⊢
   intro x hx
   obtain ⟨e, he, hx⟩ := List.mem_flatMap.1 hx
   exact all_eq_true.1 (hn e he) x hx
 | _ => exact a77 h hn
theorem a79 {I' : Prot} {p : PV} {v : Value} {F : List Nat} (h : RepP w I p v F) (hn : aB5 p = true) : RepP w I' p v F := by
 cases p with
 | agg cs => cases h with
  | agg h => exact .agg (aI9 (f := aB4) a78 h hn)
 | _ => exact a78 h hn
theorem bE6 {I' : Prot} {p : PV} {v : Value} {F : List Nat} (h : RepP w I p v F) (hn : ay0 p = true) : RepP w I' p v F := by
 cases p with
 | tup cs => cases h with
  | tup h => exact .tup (aI9 (f := aB5) a79 h hn)
 | _ => exact a79 h hn
end
section
variable {w0 : Base} {I0 : Prot} {row : ad1} {w : World} {I : Prot} {ρ : Nat → Option Loc}
def cb5 (w : World) (I : Prot) (ρ : Nat → Option Loc) (row : ad1) (f : HV → Option (PV × List Nat)) : Prop :=
 ∀ {h : HV} {v : Value} {p : PV} {ids : List Nat}, RepH w I ρ h v → f h = some (p, ids) → RepP w I p v (ad2 ρ ids) ∧ ∀ id ∈ ids, (row id).isSome = true
theorem bd6 [Mode] (hm : Mem w0 I0 row w I ρ) : cb5 w I ρ row (ax2 row) := by
 intro h v p ids hr he
 unfold ax2 at he
 split at he
 ·rename_i q
  simp only [oI, pJ] at he
  obtain ⟨rfl, rfl⟩ := he
  cases hr with
  | pv hr => exact ⟨hr, by simp⟩
 ·rename_i id len
  split at he
  ·rename_i sh es tk hrow
   split at he
   ·rename_i hle
    simp only [oM, pJ] at he
    obtain ⟨q, hq, rfl, rfl⟩ := he
    exact ⟨bJ3 hm hr hrow hle hq (fun _ _ h => h) (fun _ _ => NK.refl _ _ _), by simp [hrow]⟩
   ·cases he
  ·cases he
 ·cases he
theorem aX7 {f : HV → Option (PV × List Nat)} (hf : cb5 w I ρ row f) : ∀ {hs : List HV} {vs : List Value} {ps : List PV} {ids : List Nat}, RepHs w I ρ hs vs → aG8 f hs = some (ps, ids) →
  RepPs w I ps vs (ad2 ρ ids) ∧ ∀ id ∈ ids, (row id).isSome = true
 | [], vs, ps, ids, hr, he => by
  simp only [aG8, oI, pJ] at he
  obtain ⟨rfl, rfl⟩ := he
  cases hr
  exact ⟨.nil, by simp⟩
 | h :: hs, vs, ps, ids, hr, he => by
  simp only [aG8, oE, oM, pJ] at he
  obtain ⟨⟨p, i1⟩, h1, ⟨ps', i2⟩, h2, rfl, rfl⟩ := he
  cases hr with
  | cons r1 r2 =>
   obtain ⟨a1, a2⟩ := hf r1 h1
   obtain ⟨b1, b2⟩ := aX7 hf r2 h2
   rw [ao5]
   exact ⟨.cons a1 b1, fun id hid => by
    rcases List.mem_append.1 hid with h | h
    ·exact a2 id h
    ·exact b2 id h⟩
theorem bJ7 [Mode] (hm : Mem w0 I0 row w I ρ) : cb5 w I ρ row (aR6 row) := by
 intro h v p ids hr he
 cases h with
 | agg cs =>
  simp only [aR6, oM, pJ] at he
  obtain ⟨⟨ps, i1⟩, h1, rfl, rfl⟩ := he
  cases hr with
  | agg hr =>
   obtain ⟨a1, a2⟩ := aX7 (bd6 hm) hr h1
   exact ⟨.agg a1, a2⟩
 | _ => exact bd6 hm hr he
theorem cb6 [Mode] (hm : Mem w0 I0 row w I ρ) : cb5 w I ρ row (aR7 row) := by
 intro h v p ids hr he
 cases h with
 | tup cs =>
  simp only [aR7, oM, pJ] at he
  obtain ⟨⟨ps, i1⟩, h1, rfl, rfl⟩ := he
  cases hr with
  | tup hr =>
   obtain ⟨a1, a2⟩ := aX7 (bJ7 hm) hr h1
   exact ⟨.tup a1, a2⟩
 | _ => exact bJ7 hm hr he
omit w0 I0 in
theorem b02 {h : HV} {v : Value} {p : PV} {ids : List Nat} (_hr : RepH w I ρ h v) (he : aR7 row h = some (p, ids)) : ∀ id ∈ ids, ∃ x, row id = some x ∧ x.prot = 0 := by
 have c1 : ∀ {h : HV} {p : PV} {ids : List Nat}, ax2 row h = some (p, ids) → ∀ id ∈ ids, ∃ x, row id = some x ∧ x.prot = 0 := by
  intro h p ids he
  unfold ax2 at he
  split at he
  ·simp only [oI, pJ] at he
   obtain ⟨_, rfl⟩ := he; simp
  ·split at he
   ·rename_i hrow
    split at he
    ·simp only [oM, pJ] at he
     obtain ⟨q, _, _, rfl⟩ := he
     intro k hk
     simp only [List.mem_singleton] at hk; subst hk
     exact ⟨_, hrow, rfl⟩
    ·cases he
   ·cases he
  ·cases he
 have cl : ∀ {f : HV → Option (PV × List Nat)}, (∀ {h : HV} {p : PV} {ids : List Nat}, f h = some (p, ids) → ∀ id ∈ ids, ∃ x, row id = some x ∧ x.prot = 0) → ∀ {hs : List HV} {ps : List PV} {ids : List Nat}, aG8 f hs = some (ps, ids) → ∀ id ∈ ids, ∃ x, row id = some x ∧ x.prot = 0 := by
  intro f hf hs
  induction hs with
  | nil =>
   intro ps ids he
   simp only [aG8, oI, pJ] at he
   obtain ⟨_, rfl⟩ := he; simp
  | cons a hs ih =>
   intro ps ids he
   simp only [aG8, oE, oM, pJ] at he
   obtain ⟨⟨q, i1⟩, h1, ⟨qs, i2⟩, h2, _, rfl⟩ := he
   intro id hid
   rcases List.mem_append.1 hid with hid | hid
   ·exact hf h1 id hid
   ·exact ih h2 id hid
 have c2 : ∀ {h : HV} {p : PV} {ids : List Nat}, aR6 row h = some (p, ids) → ∀ id ∈ ids, ∃ x, row id = some x ∧ x.prot = 0 := by
  intro h p ids he
  unfold aR6 at he
  split at he
  ·simp only [oM, pJ] at he
   obtain ⟨⟨q, i1⟩, h1, _, rfl⟩ := he
   exact cl c1 h1
  ·exact c1 he
 unfold aR7 at he
 split at he
 ·simp only [oM, pJ] at he
  obtain ⟨⟨q, i1⟩, h1, _, rfl⟩ := he
  exact cl c2 h1
 ·exact c2 he
end
def bd7 (P : Program) : ResultVar → Option (Nat × Option Shape)
 | .tmp t => if t < 1000000 then some (t, none) else none
 | .cell a ty => if a < 1000000 then (aa9 P ty).map fun sh => (a, some sh) else none
def a08 (P : Program) (fn : Func) : Option (List (Nat × Option Shape)) := fn.results.toList.mapM (bd7 P)
theorem aG9 : ∀ (ds : List HV) (i s : Nat) (h : HV), look (a07 i ds) s = some h → i ≤ s ∧ ds[s - i]? = some h ∧ s < 1000000
 | [], i, s, h, hs => by simp [a07, look] at hs
 | d :: r, i, s, h, hs => by
  simp only [a07] at hs
  split at hs
  case isFalse => simp [look] at hs
  rename_i h6
  simp only [look] at hs
  split at hs
  ·rename_i hk
   simp only [oI] at hs
   subst hk; subst hs
   exact ⟨Nat.le_refl _, by simp, h6⟩
  ·obtain ⟨h1, h2, h3⟩ := aG9 r (i + 1) s h hs
   refine ⟨by omega, ?_, h3⟩
   rw [show s - i = (s - (i + 1)) + 1 by omega]
   simpa using h2
def aJ0 (tmps : Array Value) : ResultVar → Sem Value
 | .tmp t => pure (tmps.getD t undef)
 | .cell a t => do loadVar t (← asAddr (tmps.getD a undef))
theorem bQ5 [Mode] {P : Program} {w0 : Base} {I0 : Prot} {get : Nat → Option HV} {row : ad1} {a : Act} {w : World} {I : Prot} {ρ : Nat → Option Loc} (hr : RepA w0 I0 get row a w I ρ) {x : ResultVar} {s : Nat × Option Shape} {h : HV}
  (hs : bd7 P x = some s) (hv : b01 get row s = some h) : ∃ v, (aJ0 a.tmps x).run P w = .ok v w ∧ RepH w I ρ h v := by
 cases x with
 | tmp t =>
  simp only [bd7] at hs
  split at hs
  ·rename_i ht
   simp only [oI] at hs; subst hs
   exact ⟨_, rfl, (hr.tm t h hv ht).2⟩
  ·cases hs
 | cell t ty =>
  simp only [bd7] at hs
  split at hs
  case isFalse => cases hs
  rename_i ht6
  simp only [oM] at hs
  obtain ⟨sh, hsh, rfl⟩ := hs
  simp only [b01, oM] at hv
  obtain ⟨⟨h', upd⟩, hv, rfl⟩ := hv
  have hupd : upd = [] := by
   simp only [aa5] at hv
   split at hv
   ·simp only [oM, pJ] at hv; obtain ⟨_, _, _, rfl⟩ := hv; rfl
   ·split at hv
    ·simp only [oE, oM, pJ] at hv; obtain ⟨_, _, _, _, _, rfl⟩ := hv; rfl
    ·simp only [oE, oM, pJ] at hv; obtain ⟨_, _, _, _, _, rfl⟩ := hv; rfl
    ·cases hv
   ·cases hv
  subst hupd
  have hp : ∃ ad, a.tmps.getD t undef = .pointer (some ad) := by
   simp only [aa5, VA.get] at hv
   split at hv
   ·rename_i hg
    obtain ⟨b, o, _, he, _⟩ := (hr.tm t _ hg ht6).2.rptr_inv
    exact ⟨_, he⟩
   ·rename_i hg
    obtain ⟨g, n, sh', _, he⟩ := (hr.tm t _ hg ht6).2.optr_inv
    exact ⟨_, he⟩
   ·cases hv
  obtain ⟨ad, had⟩ := hp
  obtain ⟨v, h1, h2⟩ := bc2 (P := P) (id0 := 0) (ev := a.eval) (fun x vx h h1 h2 => hr.eval x vx h h1 h2) hr.mem hsh (x := .tmp t) (by simp [opdOf, ht6]) hv
  have he : a.eval (.tmp t) = .pointer (some ad) := had
  rw [he] at h1
  simp only [Instr.loadAt, Instr.sureAddr, rB, Sem.run_pure, aO] at h1
  exact ⟨v, by simp only [aJ0, had, asAddr, rB, Sem.run_pure, aO]; exact h1, h2⟩
theorem bd8 [Mode] {P : Program} {fn : Func} {w0 : Base} {I0 : Prot} {get : Nat → Option HV} {row : ad1} {a : Act} {w : World} {I : Prot} {ρ : Nat → Option Loc} (hr : RepA w0 I0 get row a w I ρ) {rs : List (Nat × Option Shape)} {hs : List HV}
  (hrs : a08 P fn = some rs) (hv : aD2 get row rs = some hs) : ∃ v, (results fn a.tmps).run P w = .ok v w ∧ RepH w I ρ (at1 hs) v := by
 have key : ∀ (l : List ResultVar) (rs : List (Nat × Option Shape)) (hs : List HV), l.mapM (bd7 P) = some rs → aD2 get row rs = some hs →
   ∃ vs, (l.mapM (aJ0 a.tmps)).run P w = .ok vs w ∧ RepHs w I ρ hs vs := by
  intro l
  induction l with
  | nil =>
   intro rs hs h1 h2
   simp at h1; subst h1
   simp [aD2] at h2; subst h2
   exact ⟨[], by simp, .nil⟩
  | cons x l ih =>
   intro rs hs h1 h2
   simp only [List.mapM_cons, Option.bind_eq_bind, Option.pure_def, oE] at h1
   obtain ⟨t, ht, ts, hts, h1⟩ := h1
   simp only [oI] at h1; subst h1
   simp only [aD2, oE, oM] at h2
   obtain ⟨y, hy, ys, hys, rfl⟩ := h2
   obtain ⟨v, hv1, hv2⟩ := bQ5 hr ht hy
   obtain ⟨vs, hvs1, hvs2⟩ := ih ts ys hts hys
   exact ⟨v :: vs, by simp only [List.mapM_cons, rB, hv1, aO, hvs1, Sem.run_pure], .cons hv2 hvs2⟩
 obtain ⟨vs, h1, h2⟩ := key fn.results.toList rs hs hrs hv
 have h3 : (results fn a.tmps).run P w = (((fn.results.toList.mapM (aJ0 a.tmps)).run P w).andThen fun vs w' => .ok (if h : vs.toArray.size = 1 then vs.toArray[0] else .tuple vs.toArray) w') := by
  have e : (fun x => match x with | .tmp t => pure (a.tmps.getD t undef) | .cell a' t => do loadVar t (← asAddr (a.tmps.getD a' undef)) : ResultVar → Sem Value) = aJ0 a.tmps := by
   funext x; cases x <;> rfl
  unfold results
  rw [Array.mapM_eq_mapM_toList]
  simp only [rB, Sem.run_map, Sem.run_pure]
  rw [← e]
  generalize (List.mapM _ fn.results.toList : Sem (List Value)).run P w = r
  cases r <;> rfl
 rw [h3, h1, aO]
 cases h2 with
 | nil => exact ⟨_, rfl, .tup .nil⟩
 | cons x1 r1 => cases r1 with
  | nil => exact ⟨_, rfl, x1⟩
  | cons x2 r2 => exact ⟨_, by simp, .tup (.cons x1 (.cons x2 r2))⟩
def aD3 [Mode] (I : Prot) : Prot := ⟨fun b o => I b o ∨ (Mode.y = true ∧ Mode.g = some b ∧ o < 64), I.n⟩
theorem bQ6 {w : World} {I : Prot} {P : Program} {g : Nat} (hI : ∀ o, o < 64 → I g o) (hg : P.globalNamed "filespace/hash.rounds" = some g) (h : Go.Lib.TabIs P w "filespace/hash.rounds" .u32 ao1) : RepP w I bC2 (.pointer (some ⟨g, 0, none⟩)) [] := by
 have hl : ao1.length = 64 := rfl
 have hr : ∀ (l : List Int), RepPs w I (l.map (PV.int .u32)) (l.map fun z => Value.int .u32 z) [] := by
  intro l
  induction l with
  | nil => exact .nil
  | cons a l ih => exact .cons (F := []) (G := []) (.int _ _) ih
 refine .rptr (sh := some 64) (o := 0) (vs := ao1.map fun z => Value.int .u32 z) (fun i hi => ?_) (by rfl) (hr _) fun i v hv => ?_
 ·rw [List.length_map, hl] at hi
  rw [Nat.zero_add]; exact hI i hi
 ·rw [List.getElem?_map] at hv
  obtain ⟨z, hz, rfl⟩ := oM.1 hv
  have hi : i < ao1.length := (gS.1 hz).1
  rw [Nat.zero_add, h.cell hg i hi]
  simp [List.getD, hz]
theorem cb7 [Mode] {P : Program} {f : FuncId} {fn : Func} {c : Code} {rs : List (Nat × Option Shape)} {ds : List PV} {r : PV} {fl : Bool} (hf : P.funcs[f]? = some fn) (hb : fn.body = some c) (hnm : fn.name ≠ "runtime.NumGoroutine")
    (hrs : a08 P fn = some rs) (hN6 : fn.ntmps ≤ 1000000) (hmode : Mode.y = true → ∀ g, Mode.g = some g → P.globalNamed "filespace/hash.rounds" = some g) (hw : ∀ (w0 : Base) (I0 : Prot), w0.P = P → ∀ (a : Act) (w : World), bv9 fn.ntmps w0 I0 (aP7 ds) a w → c.wp P (QRep fn.ntmps w0 I0 (retQ rs r fl)) a w) : CallOK P f ds r fl := by
  refine ⟨fun args w => ?_, fun w I vs Fa hG hI hrep hnF hFa hNa => ?_⟩
  · unfold callFunc
    simp [hf, hnm, hb]
  · refine calls_of_wp hf hb ?_
    have hN : fn.ntmps ≤ (vs ++ Array.replicate (fn.ntmps - vs.size) undef).size := by simp; omega
    have hFS : ∀ b, FS I Fa b → b < w.heap.size ∧ nb P w b := by
      rintro b (hb | hb)
      · exact ⟨(hFa b hb).1, (hFa b hb).2.2⟩
      · cases h' : I.n b with
        | none => exact absurd h' hb
        | some g => exact ⟨(hNa b g h').1, (hNa b g h').2.1⟩
    have hIJ : ∀ b o, I b o → (aD3 I) b o := fun b o h => .inl h
    have hJ : ∀ b o, (aD3 I) b o → b < w.heap.size := by
      rintro b o (h | ⟨h1, h2, h3⟩)
      · exact hI b o h
      · exact tab_lt (hG.2.2 b (hmode h1 b h2)).2 (hmode h1 b h2)
    have hJF : ∀ b, FS I Fa b → ∀ o, (aD3 I) b o → I b o := by
      rintro b hb o (h | ⟨h1, h2, h3⟩)
      · exact h
      · exact absurd hb (hG.2.2 b (hmode h1 b h2)).1
    have hrep : RepPs w (aD3 I) ds vs.toList Fa := RepPs.mono (fun _ _ _ => rfl) hIJ hrep fun b hb => ⟨rfl, fun b' hg => ⟨hg, rfl, hJF b' (.inr (by rw [hg]; simp))⟩⟩
    have hm0 : Mem ⟨P, w, FS I Fa, fun _ => none, fun _ => none⟩ (aD3 I) (fun _ => none) w (aD3 I) (fun _ => none) :=
      { bel := Kept.refl _ _, agr := fun _ _ _ => rfl, i0 := fun _ _ h => h, lt := hJ, new := fun _ _ h => .inl h, rows := by simp, own := by simp, inj := by simp, tyF := hFS
        nn := fun b g hb => ⟨.inr (.inr (by rw [show I.n b = some g from hb]; simp)), (hNa b g hb).1, (hNa b g hb).2.1, by simp⟩
        tyI := fun b o hb hn => by
          rcases hn with hn | hn
          · have := hJ b o hb
            have hn' : w.heap.size ≤ b := hn
            omega
          · exact fun _ => (hFS b hn).2
        tyR := by simp, bld := by simp, one := by simp, glob := hG, tab := fun hy g hg => bQ6 (fun o ho => .inr ⟨hy, hg, ho⟩) (hmode hy g hg) (hG.2.2 g (hmode hy g hg)).2 }
    have hr : bv9 fn.ntmps ⟨P, w, FS I Fa, fun _ => none, fun _ => none⟩ (aD3 I) (aP7 ds) { tmps := vs ++ Array.replicate (fn.ntmps - vs.size) undef, defers := [] } w := by
      have plain : bv9 fn.ntmps ⟨P, w, FS I Fa, fun _ => none, fun _ => none⟩ (aD3 I) { tm := [], hp := [], nx := 0 } { tmps := vs ++ Array.replicate (fn.ntmps - vs.size) undef, defers := [] } w :=
        ⟨⟨hN, hN6⟩, aD3 I, fun _ => none, ⟨hm0.sub (fun id r h => by simp [ae3, look] at h), fun s h hs => by simp [look] at hs, fun s h hs => by simp [look] at hs, rfl⟩, fun _ _ => rfl⟩
      cases hall : ds.all aq9 with
      | false =>
        have : aP7 ds = { tm := [], hp := [], nx := 0 } := by unfold aP7; rw [hall]
        rw [this]; exact plain
      | true =>
        have e0 : aP7 ds = { tm := a07 0 (ag5 ax6 0 ds).1, hp := (ag5 ax6 0 ds).2.1, nx := (ag5 ax6 0 ds).2.2 } := by unfold aP7; rw [hall]
        rw [e0]
        have hFr : bd2 ⟨P, w, FS I Fa, fun _ => none, fun _ => none⟩ (fun _ => none) w (aD3 I) (fun _ => none) Fa := ⟨fun b hb => .inr (.inl hb), fun b hb => ⟨fun o ho => (hFa b hb).2.1 o (hJF b (.inl hb) o ho), by
          cases h' : I.n b with
          | none => exact h'
          | some g => exact ((hNa b g h').2.2 hb).elim⟩, by simp, fun b hb => (hFa b hb).2.2⟩
        obtain ⟨ρ', m, g, r, _, _, _⟩ := aN0 a43 0 hm0 hrep (fun p hp => bq0 (all_eq_true.1 hall p hp)) hFr hnF (fun _ _ _ => rfl)
        refine ⟨⟨hN, hN6⟩, aD3 I, ρ', ⟨?_, fun s h hs _ => ?_, fun s h hs h6 => ?_, rfl⟩, fun k hk => g.dom k rfl (fun hc => by have := hc.2; simp at hk; omega)⟩
        · refine m.sub fun id r h => ?_
          unfold ae8
          unfold ae3 at h
          cases hl : look (ag5 ax6 0 ds).2.1 id with
          | none => rw [hl] at h; cases h
          | some x => rw [hl] at h; exact h
        · obtain ⟨_, h2, _⟩ := aG9 _ 0 s h hs
          rw [Nat.sub_zero] at h2
          obtain ⟨x, hx, hrx⟩ := r.get s h h2
          have hlt : s < vs.size := by
            have := (gS.1 hx).1
            simpa using this
          have hx' : vs[s]? = some x := by simpa using hx
          refine ⟨by simp; omega, ?_⟩
          have : (vs ++ Array.replicate (fn.ntmps - vs.size) undef).getD s undef = x := by
            have h3 : (vs ++ Array.replicate (fn.ntmps - vs.size) undef)[s]? = some x := by rw [Array.getElem?_append_left hlt]; exact hx'
            simp only [Array.getD_eq_getD_getElem?, h3, Option.getD_some]
          rw [this]
          exact hrx
        · obtain ⟨_, _, h7⟩ := aG9 _ 0 s h hs
          omega
    refine wp_mono (hw _ _ rfl _ w hr) fun e a' w' hq => ?_
    have fin : ∀ st, bv9 fn.ntmps ⟨P, w, FS I Fa, fun _ => none, fun _ => none⟩ (aD3 I) st a' w' → (∃ hs p ids, aD2 (look st.tm) (ae3 st.hp) rs = some hs ∧ aR7 (ae3 st.hp) (at1 hs) = some (p, ids) ∧ ids.Nodup ∧ Le p r ∧ (fl = true → ay0 r = true) ∧ (Mode.y = true → fl = true ∧ ids = [])) →
        a'.defers = [] ∧ ∃ v, (results fn a'.tmps).run P w' = .ok v w' ∧ ∃ v' I' F, Ending.returned v = .returned v' ∧ Kept (FS I Fa) w w' ∧ Agree w w' I ∧ (∀ b, FS I Fa b → nb P w' b) ∧
          (∀ b o, I' b o → b < w'.heap.size ∧ (I b o ∨ w.heap.size ≤ b ∨ FS I Fa b) ∧ (w.heap.size ≤ b ∨ FS I Fa b → nb P w' b)) ∧ (fl = true → ∀ b o, I' b o → w.heap.size ≤ b ∨ FS I Fa b) ∧
          RepP w' I' r v' F ∧ F.Nodup ∧ (∀ b ∈ F, (w.heap.size ≤ b ∨ FS I Fa b) ∧ b < w'.heap.size ∧ (∀ o, ¬ I' b o ∧ ¬ I b o) ∧ nb P w' b) ∧
          (∀ b g, I'.n b = some g → (w.heap.size ≤ b ∨ FS I Fa b) ∧ b < w'.heap.size ∧ nb P w' b ∧ b ∉ F ∧ ∀ o, I b o → I' b o) := by
      rintro st ⟨_, I', ρ, hrep', _⟩ ⟨hs, p, ids, h1, h2, h3, h4, h5, h6⟩
      obtain ⟨v0, hrun, hval⟩ := bd8 hrep' hrs h1
      refine ⟨hrep'.df, v0, hrun, ?_⟩
      obtain ⟨e1, e2⟩ := cb6 hrep'.mem hval h2
      have e3 := b02 hval h2
      have hnd := aK0 hrep'.mem h3 e2
      have hmem := hrep'.mem
      have hbl : ∀ b ∈ ad2 ρ ids, (w.heap.size ≤ b ∨ FS I Fa b) ∧ b < w'.heap.size ∧ (∀ o, ¬ I' b o ∧ ¬ I b o) ∧ nb P w' b := by
        intro b hb'
        obtain ⟨id, n, sh, hid, hg⟩ := ap8 hb'
        obtain ⟨x, hx, hp0⟩ := e3 id hid
        obtain ⟨o1, o2, o3⟩ := hmem.own id x b n sh hx hg
        have o4 : ∀ o, ¬ I' b o := fun o => o3 o (by rw [hp0]; exact Nat.zero_le _)
        exact ⟨o1, o2, fun o => ⟨o4 o, fun h => o4 o (hmem.i0 b o (hIJ b o h))⟩, hmem.tyR id x b n sh hx hg (by
          cases hy : Mode.y with
          | false => rfl
          | true => rw [(h6 hy).2] at hid; cases hid)⟩
      have hag : Agree w w' I := fun b o h => hmem.agr b o (hIJ b o h)
      have hF' : ∀ b, FS I Fa b → nb P w' b := fun b hb => (hmem.tyF b hb).2
      cases hfl : fl with
      | false =>
        refine ⟨_, I', _, rfl, hmem.bel, hag, hF', fun b o hb' => ⟨hmem.lt b o hb', (hmem.new b o hb').imp_left fun hj => hj.elim id fun hj => absurd (hfl.symm.trans (h6 hj.1).1) (by simp), fun hni => hmem.tyI b o hb' hni (by
          cases hy : Mode.y with
          | false => rfl
          | true => exact absurd (hfl.symm.trans (h6 hy).1) (by simp))⟩, by simp, e1.le h4, hnd, hbl, fun b g hb' => ?_⟩
        obtain ⟨n1, n2, n3, n4⟩ := hmem.nn b g hb'
        refine ⟨n1, n2, n3, fun hm' => ?_, fun o ho => hmem.i0 b o (hIJ b o ho)⟩
        obtain ⟨id, n, sh, hid, hg⟩ := ap8 hm'
        obtain ⟨x, hx, _⟩ := e3 id hid
        exact n4 id x n sh hx hg
      | true =>
        exact ⟨_, Prot.none, _, rfl, hmem.bel, hag, hF', fun b o hb' => False.elim hb', fun _ b o hb' => False.elim hb', bE6 (e1.le h4) (h5 hfl), hnd, fun b hb' => ⟨(hbl b hb').1, (hbl b hb').2.1, fun o => ⟨fun h => h, ((hbl b hb').2.2.1 o).2⟩, (hbl b hb').2.2.2⟩, fun b g hb' => by cases hb'⟩
    cases e with
    | normal => obtain ⟨st, hrs', hq⟩ := hq; exact fin st hrs' hq
    | ret => obtain ⟨st, hrs', hq⟩ := hq; exact fin st hrs' hq
    | exit id => obtain ⟨st, hrs', hq⟩ := hq; exact hq.elim
    | _ => exact hq.elim
end Go.Vm
