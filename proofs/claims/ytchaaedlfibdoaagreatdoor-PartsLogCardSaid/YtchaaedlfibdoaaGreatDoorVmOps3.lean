import Derived.Test.YtchaaedlfibdoaaGreatDoorVmOps2
open List (getElem?_append_left getElem?_append_right getElem?_drop getElem?_map getElem?_take map_cons replicate take_length)
open Option (bind_eq_bind pure_def)
namespace Go.Vm
open Go.RowKit (Below)
theorem bb7 {w : World} {I : Prot} {p : PV} {v : Value} (h : RepP w I p v []) : RepP w I (bu1 p) v [] := by
 cases p with
 | usl sh es => cases es with
  | nil => generalize hF : ([] : List Nat) = F at h; cases h with
   | uslNil => exact .slNil _
   | usl => cases hF
  | cons e es => exact h
 | _ => exact h
theorem a40 {w : World} {I : Prot} : ∀ {ps : List PV} {vs : List Value} {F : List Nat}, RepPs w I ps vs F → F = [] → RepPs w I (ps.map bu1) vs []
 | _, _, _, .nil, _ => .nil
 | _, _, _, .cons h r, hF => by
  have := List.append_eq_nil_iff.1 hF
  rw [this.1] at h
  exact .cons (F := []) (G := []) (bb7 h) (a40 r this.2)
theorem bu5 {w : World} {I : Prot} {p : PV} {v : Value} (h : RepP w I p v []) : RepP w I (aV2 p) v [] := by
 cases p with
 | agg cs =>
  generalize hF : ([] : List Nat) = F at h
  cases h with
  | agg h => subst hF; exact .agg (a40 h rfl)
 | _ => exact bb7 h
theorem bb8 (p : PV) : (bu1 p).one = p.one := by
 cases p with
 | usl sh es => cases es <;> rfl
 | _ => rfl
theorem a41 {sh : Shape} {p : PV} (h : p.fits sh = true) : (aV2 p).fits sh = true := by
 cases sh with
 | none => cases p <;> first | exact h | exact (bb8 _).trans h
 | some n =>
  cases p with
  | agg cs =>
   simp only [PV.fits, aV2, bA, List.length_map, List.all_map] at h ⊢
   refine ⟨h.1, ?_⟩
   rw [List.all_eq_true] at h ⊢
   intro x hx
   exact (bb8 x).trans (h.2 x hx)
  | _ => simp [PV.fits] at h
theorem bb9 (p : PV) : (aV2 p).cells = p.cells.map bu1 := by
 cases p with
 | usl sh es => cases es <;> rfl
 | _ => rfl
theorem bC4 {sh : Shape} {h : HV} (hf : h.fits sh = true) : (bI3 h).fits sh = true := by
 cases h with
 | pv p => rw [HV.fits_pv] at hf; show (HV.pv (aV2 p)).fits sh = true; rw [HV.fits_pv]; exact a41 hf
 | _ => exact hf
theorem bO3 {w : World} {I : Prot} {ρ : Nat → Option Loc} {h : HV} {vs : List Value} (hr : RepHs w I ρ h.cells vs) : RepHs w I ρ (bI3 h).cells vs := by
 cases h with
 | pv p =>
  rw [HV.cells_pv] at hr
  show RepHs w I ρ (HV.pv (aV2 p)).cells vs
  rw [HV.cells_pv, bb9]
  exact (a40 hr.toP rfl).toH rfl
 | _ => exact hr
theorem bc0 {w : World} {I : Prot} {ρ : Nat → Option Loc} : ∀ {es : List HV} {vs : List Value}, RepHs w I ρ (es.flatMap HV.cells) vs → RepHs w I ρ ((es.map bI3).flatMap HV.cells) vs
 | [], _, h => h
 | e :: es, vs, h => by
  simp only [List.flatMap_cons] at h
  have h1 := h.take e.cells.length
  have h2 := h.drop e.cells.length
  rw [List.take_left] at h1
  rw [List.drop_left] at h2
  have h3 := (bO3 h1).append (bc0 h2)
  rw [List.take_append_drop] at h3
  simpa only [map_cons, List.flatMap_cons] using h3
theorem ca4 (sh : Shape) (h : HV) : (bu0 sh h).sh = sh := by cases h <;> rfl
theorem bI9 (sh : Shape) (h : HV) : (bu0 sh h).es = [h] := by cases h <;> rfl
theorem ca5 (sh : Shape) (h : HV) (T e : TypeId) (bs : List UInt8) : bu0 sh h ≠ .b T e bs := by cases h <;> intro h <;> cases h
theorem aZ4 (es : List HV) (sh : Shape) (T e : TypeId) (bs : List UInt8) : ax1 es sh ≠ .b T e bs := by unfold ax1; split <;> intro h <;> cases h
theorem aQ6 (es : List HV) (sh : Shape) : (ax1 es sh).sh = sh := by unfold ax1; split <;> rfl
theorem aK9 (es : List HV) (sh : Shape) : (ax1 es sh).es = es := by
 unfold ax1
 split
 ·rename_i ps hps
  rw [aC1 hps]; rfl
 ·rfl
theorem ca6 (sh : Shape) (h : HV) : (bu0 sh h).tk = [] := by cases h <;> rfl
theorem aZ5 (es : List HV) (sh : Shape) : (ax1 es sh).tk = [] := by unfold ax1; split <;> rfl
section
variable {P : Program} {w0 : Base} {I0 : Prot} {row : ad1} {w : World} {I : Prot} {ρ : Nat → Option Loc} {id0 : Nat} {ev : Operand → Value} {get : Nat → Option HV} {h : HV} {upd : Upd}
variable [Mode] (hget : ∀ (x : Operand) (vx : VA) (h : HV), opdOf x = some vx → vx.get get = some h → RepH w I ρ h (ev x)) (hm : Mem w0 I0 row w I ρ) (hfree : ∀ k, id0 ≤ k → k < id0 + 4 → ρ k = none)
include hm hfree in
theorem bO4 {e : TypeId} {sh : Shape} {z : PV} (hnb : Mode.y = false → ap7 w0.P e = false) (hz : aC2 P e = some z) (hs : aa5 (.alloc sh z) id0 get row = some (h, upd)) :
  Done P w0 I0 row w I ρ id0 (do pure (.value (← Instr.alloc e true (.tuple #[])))) h upd := by
 simp only [aa5] at hs
 split at hs
 ·rename_i hf
  simp only [oI, pJ] at hs
  obtain ⟨rfl, rfl⟩ := hs
  obtain ⟨i, v, sh', hi, hzv, hsh', hf', hc⟩ := as9 hz
  have hrep : RepH w I ρ (.pv z) v := .pv (closed_rep hc)
  refine Done.new hm hfree (r := .p sh [z]) (cur := v.cells) (t := e) (vs := v.cells.toList) (v := .pointer (some ⟨w.heap.size, 0, none⟩)) ?_ ?_ ?_ ?_ ?_ hnb
  ·simp [Instr.alloc, zeroValue, typeInfo, hi, hzv, newVar, newRow]
  ·simp [Row.es, Row.sh, HV.fits_pv, hf]
  ·simpa [Row.flat, Row.es] using hrep.cells
  ·exact take_length
  ·intro w' I' ρ' hρ
   have := RepH.optr (w := w') (I := I') (idx := 0) (off := 0) hρ
   simpa using this
 ·cases hs
include hm hfree in
theorem bC5 {T e : TypeId} {i : TypeInfo} (hi : P.info? T = some i) (hz : i.zero = some (.agg #[.pointer none, .slice none 0 0])) (hnb : ap7 w0.P T = false) (heb : ap7 w0.P e = true) (hyo : Mode.y = false) (hno : ∀ k T' e' bs', row k ≠ some (.b T' e' bs')) :
  Done P w0 I0 row w I ρ id0 (do pure (.value (← Instr.alloc T true (.tuple #[])))) (.optr id0 0 0) [(id0, some (.b T e []))] := by
 refine Done.new hm hfree (r := .b T e []) (cur := #[.pointer none, .slice none 0 0]) (t := T) (vs := []) (v := .pointer (some ⟨w.heap.size, 0, none⟩)) ?_ ?_ ?_ ?_ ?_ (fun _ => hnb) ?_
 ·simp [Instr.alloc, zeroValue, typeInfo, hi, hz, newVar, newRow, Value.cells]
 ·simp [Row.es]
 ·simpa [Row.flat, Row.es] using RepHs.nil
 ·simp
 ·intro w' I' ρ' hρ
  have := RepH.optr (w := w') (I := I') (idx := 0) (off := 0) hρ
  simpa using this
 ·intro T' e' bs hb
  cases hb
  refine ⟨.inl ⟨hm.bel.size, .slice none 0 0, heap_alloc_new w _, ?_, ?_⟩, ⟨heb, hyo⟩, hno⟩
  ·exact World.ownsRowF_nil _ _ _ _
  ·simp [Value.ownBlock]
include hget hm hfree in
theorem ca7 {e : TypeId} {sh : Shape} {x : Operand} {vx : VA} (hnb : Mode.y = false → ap7 w0.P e = false) (hx : opdOf x = some vx) (hs : aa5 (.box sh vx) id0 get row = some (h, upd)) :
  Done P w0 I0 row w I ρ id0 (do pure (.value (← Instr.box e (ev x)))) h upd := by
 simp only [aa5, oE] at hs
 obtain ⟨y, hy, hs⟩ := hs
 split at hs
 ·rename_i hf
  simp only [oI, pJ] at hs
  obtain ⟨rfl, rfl⟩ := hs
  have hrep := hget x vx y hx hy
  refine Done.new hm hfree (r := bu0 sh y) (cur := (ev x).cells) (t := e) (vs := (ev x).cells.toList) (v := .pointer (some ⟨w.heap.size, 0, none⟩)) ?_ ?_ ?_ ?_ ?_ hnb (fun T e bs h => (ca5 _ _ T e bs h).elim) (by rw [ca6]; exact Tails.nil _ _ _ _ _ _)
  ·simp [Instr.box, newVar, newRow]
  ·simp [bI9, ca4, hf]
  ·simpa [Row.flat, bI9] using hrep.cells
  ·exact take_length
  ·intro w' I' ρ' hρ
   have := RepH.optr (w := w') (I := I') (idx := 0) (off := 0) hρ
   simpa using this
 ·cases hs
omit [Mode] in
theorem aA0 : ∀ (xs : List Value) (cs : Array Value) (off k : Nat), off + k + xs.length ≤ cs.size →
  ((xs.zipIdx k).foldl (fun (cs : Array Value) (c : Value × Nat) => cs.setIfInBounds (off + c.2) c.1) cs).toList = splice cs.toList (off + k) xs := by
 intro xs
 induction xs with
 | nil => intro cs off k _; simp [splice]
 | cons x xs ih =>
  intro cs off k hle
  simp only [List.length_cons] at hle
  simp only [List.zipIdx_cons, List.foldl_cons]
  rw [ih _ off (k + 1) (by simp; omega)]
  simp only [Array.toList_setIfInBounds, splice, List.length_cons]
  apply List.ext_getElem?
  intro i
  have hlen : off + k < cs.toList.length := by simp; omega
  by_cases h1 : i < off + k
  ·rw [getElem?_append_left (by simp; omega), getElem?_append_left (by simp; omega), getElem?_append_left (by simp; omega), getElem?_append_left (by simp; omega)]
   rw [getElem?_take, getElem?_take, iP (by omega), iP h1, List.getElem?_set_ne (by omega)]
  ·by_cases h2 : i = off + k
   ·subst h2
    rw [getElem?_append_left (by simp; omega), getElem?_append_left (by simp; omega), getElem?_append_left (by simp; omega), getElem?_append_right (by simp; omega)]
    rw [getElem?_take, iP (by omega), List.getElem?_set_self (by simpa using hlen)]
    simp only [List.length_take, Array.length_toList]
    rw [Nat.min_eq_left (by simpa using Nat.le_of_lt hlen), Nat.sub_self]
    rfl
   ·by_cases h3 : i < off + (k + 1) + xs.length
    ·rw [getElem?_append_left (by simp; omega), getElem?_append_right (by simp; omega), getElem?_append_left (by simp; omega), getElem?_append_right (by simp; omega)]
     simp only [List.length_take, List.length_set, Array.length_toList]
     have e1 : min (off + (k + 1)) cs.size = off + k + 1 := by simp at hlen; omega
     have e2 : min (off + k) cs.size = off + k := by simp at hlen; omega
     rw [e1, e2, show i - (off + k) = (i - (off + k + 1)) + 1 by omega, List.getElem?_cons_succ]
    ·rw [getElem?_append_right (by simp; omega), getElem?_append_right (by simp; omega)]
     rw [getElem?_drop, getElem?_drop, List.getElem?_set_ne (by simp at *; omega)]
     congr 1
     simp at *; omega
omit [Mode] in
theorem aM8 {w : World} {I : Prot} {ρ : Nat → Option Loc} (place : Nat → Option (Nat × Nat)) : ∀ (parts : List (Nat × Value)) (ps : List (Nat × Nat × HV)) (cs : List HV) (cells : Array Value) (r : List HV),
  RepHs w I ρ cs cells.toList → parts.length = ps.length → (∀ (i : Nat) (p : Nat × Value) (q : Nat × Nat × HV), parts[i]? = some p → ps[i]? = some q → place p.1 = some (q.1, q.2.1) ∧ RepH w I ρ q.2.2 p.2) →
  bB5 ps cs = some r → ∃ out, Instr.fill place cells parts = some out ∧ RepHs w I ρ r out.toList
 | [], [], cs, cells, r, hr, _, _, hf => by simp [bB5] at hf; subst hf; exact ⟨cells, rfl, hr⟩
 | [], _ :: _, _, _, _, _, hl, _, _ => by simp at hl
 | _ :: _, [], _, _, _, _, hl, _, _ => by simp at hl
 | (i, v) :: parts, (off, size, h) :: ps, cs, cells, r, hr, hl, hp, hf => by
  simp only [bB5] at hf
  split at hf
  ·rename_i hc
   obtain ⟨h1, h2⟩ := hp 0 (i, v) (off, size, h) rfl rfl
   have hcl := h2.cells.length
   have hsz : v.cells.size = size := by rw [← hc.1, hcl]; simp
   have hlen := hr.length
   simp only [Array.length_toList] at hlen
   have hfold := aA0 v.cells.toList cells off 0 (by simp [hsz]; omega)
   obtain ⟨out, ho, hor⟩ := aM8 place parts ps (splice cs off h.cells) (v.cells.zipIdx.foldl (fun cs c => cs.setIfInBounds (off + c.2) c.1) cells) r
    (by
     rw [← Array.foldl_toList, Array.toList_zipIdx, hfold]
     exact hr.splice h2.cells off) (by simpa using hl)
    (fun j p q h3 h4 => hp (j + 1) p q (by simpa using h3) (by simpa using h4)) hf
   refine ⟨out, ?_, hor⟩
   simp only [Instr.fill, h1]
   rw [iN (by simp [hsz]; omega)]
   exact ho
  ·cases hf
def aA1 (P : Program) (t : TypeId) (i : Nat) : Option (Nat × Nat) :=
 match P.underlying t with
 | some (.struct fs) => (fs.toList[i]?).bind fun f => (P.info? f.type).map fun j => (f.offset, j.size)
 | some (.array _ e) => (P.info? e).map fun j => (i * j.size, j.size)
 | _ => none
def aA9 (P : Program) (t : TypeId) : Bool :=
 match P.underlying t with
 | some (.struct fs) => (fs.toList.mapM fun f => (P.info? f.type).map fun j => (f.offset, j.size)).isSome
 | some (.array _ e) => (P.info? e).isSome
 | _ => false
omit [Mode] in
theorem aw5 {α β : Type} {f : α → Option β} : ∀ {l : List α} {r : List β}, l.mapM f = some r → ∀ i : Nat, r[i]? = (l[i]?).bind f
 | [], r, h, i => by simp at h; subst h; simp
 | a :: l, r, h, i => by
  simp only [List.mapM_cons, bind_eq_bind, pure_def, oE] at h
  obtain ⟨b, hb, bs, hbs, h⟩ := h
  simp only [oI] at h; subst h
  cases i with
  | zero => simp [hb]
  | succ i => simpa using aw5 hbs i
omit [Mode] in
theorem ag9 {α β : Type} {f : α → Option β} {l : List α} {r : List β} (h : l.mapM f = some r) : r.length = l.length := by
 induction l generalizing r with
 | nil => simp at h; subst h; rfl
 | cons a l ih =>
  simp only [List.mapM_cons, bind_eq_bind, pure_def, oE] at h
  obtain ⟨b, hb, bs, hbs, h⟩ := h
  simp only [oI] at h; subst h
  simp [ih hbs]
omit [Mode] in
theorem aM9 {t : TypeId} {it : TypeInfo} {z : Value} (hi : P.info? t = some it) (hz : it.zero = some z) (hp : aA9 P t = true) (parts : List (Nat × Value)) :
  P.built t parts = Instr.fill (aA1 P t) z.cells parts := by
 unfold Program.built
 unfold aA9 at hp
 split at hp
 ·rename_i fs hu
  obtain ⟨places, hpl⟩ := Option.isSome_iff_exists.1 hp
  simp only [hi, hu, hz, hpl]
  congr 1
  funext i
  have := aw5 hpl i
  simp [aA1, hu, this]
 ·rename_i n e hu
  obtain ⟨ie, hie⟩ := Option.isSome_iff_exists.1 hp
  simp only [hi, hu, hz, hie]
  congr 1
  funext i
  simp [aA1, hu, hie]
 ·cases hp
include hget hm in
theorem bO5 {t : TypeId} {zs : List PV} {parts : Array (Nat × Operand)} {vparts : List (Nat × Nat × VA)} (hz : aC2 P t = some (.agg zs)) (hp : aA9 P t = true)
  (hx : (parts.toList.mapM fun (q : Nat × Operand) => (aA1 P t q.1).bind fun pl => (opdOf q.2).map fun v => (pl.1, pl.2, v)) = some vparts)
  (hs : aa5 (.build zs vparts) id0 get row = some (h, upd)) : Done P w0 I0 row w I ρ id0 (do pure (.value (← Instr.build t (parts.map fun (i, x) => (i, ev x))))) h upd := by
 simp only [aa5, oE, oM, pJ] at hs
 obtain ⟨ps, hps, cs, hcs, rfl, rfl⟩ := hs
 obtain ⟨i, v, sh, hi, hzv, hsh, hf, hc⟩ := as9 hz
 have hzr : RepP w I (.agg zs) v [] := closed_rep hc
 have hzc : RepHs w I ρ (zs.map .pv) v.cells.toList := by simpa [HV.cells] using (RepH.pv (ρ := ρ) hzr).cells
 obtain ⟨out, ho, hor⟩ := aM8 (aA1 P t) (parts.map fun (i, x) => (i, ev x)).toList ps (zs.map .pv) v.cells cs hzc (by
   have h1 := ag9 hx
   have h2 := ag9 hps
   simp; simp at h1; omega)
  (by
   intro j p q hpj hqj
   have h1 := aw5 hx j
   have h2 := aw5 hps j
   rw [hqj] at h2
   simp only [Array.toList_map, getElem?_map, oM] at hpj
   obtain ⟨⟨i0, x0⟩, hx0, rfl⟩ := hpj
   rw [hx0] at h1
   cases hv : vparts[j]? with
   | none => rw [hv] at h2; simp at h2
   | some y =>
    obtain ⟨o1, s1, v1⟩ := y
    rw [hv] at h1 h2
    simp only [oB] at h1 h2
    have h1' := h1.symm
    simp only [oE, oM, pJ] at h1'
    obtain ⟨pl, hpl, v2, hv2, rfl, rfl, rfl⟩ := h1'
    have h2' := h2.symm
    simp only [oM] at h2'
    obtain ⟨y, hy, rfl⟩ := h2'
    exact ⟨hpl, hget _ _ _ hv2 hy⟩) hcs
 have hb := aM9 hi hzv hp (parts.map fun (i, x) => (i, ev x)).toList
 rw [ho] at hb
 refine Done.quiet hm (v := .agg out) ?_ (RepHs.mkAgg hor)
 rw [rB, run_build w t _ out hb]
 rfl
omit [Mode] in
theorem al2 {zc : List Value} {s n : Nat} (hz : zc.length = s) (hs : 0 < s) : (Array.range (n * s)).map (zc.toArray[· % s]!) = (replicate n zc).flatten.toArray := by
 apply Array.ext'
 simp only [Array.toList_map, Array.toList_range]
 apply List.ext_getElem?
 intro i
 have hfl : (replicate n zc).flatten.length = n * s := by simp [hz]
 by_cases hi : i < n * s
 ·rw [getElem?_map, List.getElem?_range hi, Option.map_some]
  have hq : i / s < n := Nat.div_lt_of_lt_mul (by rw [Nat.mul_comm]; exact hi)
  have hm := Nat.mod_lt i hs
  have h1 : (replicate n zc).flatMap id = (replicate n zc).flatten := by simp [List.flatMap]
  have h2 := bb4 (c := id) (s := s) (es := replicate n zc) (fun e he => by rw [List.eq_of_mem_replicate he]; exact hz) (k := i / s) (e := zc) (by simp [hq])
  rw [h1] at h2
  have h3 : ((((replicate n zc).flatten.drop (i / s * s)).take s))[i % s]? = zc[i % s]? := by rw [h2]; rfl
  rw [getElem?_take, iP hm, getElem?_drop, show i / s * s + i % s = i by rw [Nat.mul_comm]; exact Nat.div_add_mod i s] at h3
  rw [h3]
  have : i % s < zc.length := by omega
  simp [this]
 ·rw [List.getElem?_eq_none (by simp; omega), List.getElem?_eq_none (by omega)]
omit [Mode] in
theorem RepHs.replicate {zc : List Value} {z : HV} (hz : RepHs w I ρ z.cells zc) (n : Nat) : RepHs w I ρ ((replicate n z).flatMap HV.cells) (replicate n zc).flatten := by
 induction n with
 | zero => exact .nil
 | succ n ih => simpa [List.replicate_succ] using hz.append ih
omit [Mode] in
theorem a90 (ps : List (Nat × HV)) (es : List HV) : (ps.foldl (fun es q => es.set q.1 q.2) es).length = es.length := by
 induction ps generalizing es with
 | nil => rfl
 | cons p ps ih => simp [ih]
omit [Mode] in
theorem aJ8 {sh : Shape} : ∀ (ps : List (Nat × HV)) (es : List HV), (∀ q ∈ ps, q.2.fits sh = true) → (∀ e ∈ es, e.fits sh = true) → ∀ e ∈ ps.foldl (fun es q => es.set q.1 q.2) es, e.fits sh = true
 | [], es, _, h, e, he => h e he
 | p :: ps, es, hp, h, e, he => aJ8 ps (es.set p.1 p.2) (fun q hq => hp q (by simp [hq])) (fun x hx => by
  rcases List.mem_or_eq_of_mem_set hx with hx | rfl
  ·exact h x hx
  ·exact hp p (by simp)) e he
omit [Mode] in
theorem bl4 {sh : Shape} : ∀ (ps : List (Nat × HV)) (es : List HV), (∀ q ∈ ps, q.1 < es.length ∧ q.2.fits sh = true) → (∀ e ∈ es, e.fits sh = true) →
  bB5 (ps.map fun q => (q.1 * sh.size, sh.size, q.2)) (es.flatMap HV.cells) = some ((ps.foldl (fun es q => es.set q.1 q.2) es).flatMap HV.cells)
 | [], es, _, _ => rfl
 | p :: ps, es, hp, h => by
  obtain ⟨h1, h2⟩ := hp p (by simp)
  have h0 : ∀ e ∈ es, (HV.cells e).length = sh.size := fun e he => (HV.fits_cells (h e he)).1
  have hc := (HV.fits_cells h2).1
  simp only [map_cons, bB5]
  rw [iP ⟨hc, by rw [flat_length h0, show p.1 * sh.size + sh.size = (p.1 + 1) * sh.size by rw [Nat.add_mul]; omega]; exact Nat.mul_le_mul_right _ h1⟩, ← bI5 h0 h1 hc]
  exact bl4 ps (es.set p.1 p.2) (fun q hq => by simpa using hp q (by simp [hq])) (fun x hx => by
   rcases List.mem_or_eq_of_mem_set hx with hx | rfl
   ·exact h x hx
   ·exact h2)
include hget hm hfree in
theorem bc1 {t e : TypeId} {sh : Shape} {z : PV} {len : Nat} {parts : Array (Nat × Operand)} {vparts : List (Nat × VA)} (hnb : Mode.y = false → ap7 w0.P e = false) (ht : P.underlying t = some (.slice e)) (hsh : aa9 P e = some sh) (hz : aC2 P e = some z) (hpos : 0 < sh.size)
  (hx : (parts.toList.mapM fun (q : Nat × Operand) => (opdOf q.2).map fun v => (q.1, v)) = some vparts) (hs : aa5 (.buildSlice sh z len vparts) id0 get row = some (h, upd)) :
  Done P w0 I0 row w I ρ id0 (do pure (.value (← Instr.buildSlice t len (parts.map fun (i, x) => (i, ev x))))) h upd := by
 simp only [aa5, oE] at hs
 obtain ⟨ps, hps, hs⟩ := hs
 split at hs
 ·rename_i hc
  simp only [bA, List.all_eq_true, dT] at hc
  obtain ⟨⟨hall, hzf⟩, hsmall⟩ := hc
  simp only [oI, pJ] at hs
  obtain ⟨rfl, rfl⟩ := hs
  obtain ⟨i, v, sh', hi, hzv, hsh', hf, hcl⟩ := as9 hz
  obtain rfl : sh = sh' := by rw [hsh] at hsh'; exact Option.some.inj hsh'
  obtain ⟨i2, d, hi2, hu2, hsz, _⟩ := ad9 hsh
  obtain rfl : i = i2 := by rw [hi] at hi2; exact Option.some.inj hi2
  have hzr : RepH w I ρ (.pv z) v := .pv (closed_rep hcl)
  have hzc := hzr.cells
  have hvl : v.cells.toList.length = sh.size := by rw [← hzc.length, HV.cells_pv, List.length_map]; exact (PV.fits_cells hf).1
  have hvl' : v.cells.size = sh.size := by simpa using hvl
  have hes : ∀ x ∈ replicate len (HV.pv z), x.fits sh = true := fun x hx => by rw [List.eq_of_mem_replicate hx, HV.fits_pv]; exact hzf
  have hps' : ∀ q ∈ ps, q.1 < (replicate len (HV.pv z)).length ∧ q.2.fits sh = true := fun q hq => by simpa using hall q hq
  have hfill := bl4 ps _ hps' hes
  obtain ⟨out, ho, hor⟩ := aM8 (fun i => some (i * sh.size, sh.size)) (parts.map fun (i, x) => (i, ev x)).toList (ps.map fun q => (q.1 * sh.size, sh.size, q.2)) _
   (replicate len v.cells.toList).flatten.toArray _ (by simpa using RepHs.replicate hzc len) (by
    have h1 := ag9 hx
    have h2 := ag9 hps
    simp; simp at h1; omega)
   (by
    intro j p q hpj hqj
    have h1 := aw5 hx j
    have h2 := aw5 hps j
    simp only [Array.toList_map, getElem?_map, oM] at hpj hqj
    obtain ⟨⟨i0, x0⟩, hx0, rfl⟩ := hpj
    obtain ⟨⟨i1, y1⟩, hy1, rfl⟩ := hqj
    rw [hx0] at h1
    rw [hy1] at h2
    cases hv : vparts[j]? with
    | none => rw [hv] at h2; simp at h2
    | some y =>
     obtain ⟨o1, v1⟩ := y
     rw [hv] at h1 h2
     simp only [oB] at h1 h2
     have h1' := h1.symm
     simp only [oM, pJ] at h1'
     obtain ⟨v2, hv2, rfl, rfl⟩ := h1'
     have h2' := h2.symm
     simp only [oM, pJ] at h2'
     obtain ⟨y, hy, rfl, rfl⟩ := h2'
     exact ⟨rfl, hget _ _ _ hv2 hy⟩) hfill
  have hrun : (Instr.buildSlice t len (parts.map fun (i, x) => (i, ev x))).run P w = .ok (.slice (some ⟨w.heap.size, 0, none⟩) len len) (w.alloc (.cells out e)) := by
   have hrow : (Array.range (len * i.size)).map (v.cells[· % v.cells.size]!) = (replicate len v.cells.toList).flatten.toArray := by
    have := al2 (n := len) hvl hpos
    rw [hsz, hvl', ← this]
   by_cases h0 : len * i.size = 0
   ·have hl0 : len = 0 := by
     rcases Nat.mul_eq_zero.1 h0 with h | h
     ·exact h
     ·omega
    subst hl0
    have hps0 : ps = [] := by
     cases ps with
     | nil => rfl
     | cons q _ => exact absurd (hall q (by simp)).1 (by omega)
    have hp0 : parts = #[] := by
     have h1 := ag9 hx
     have h2 := ag9 hps
     subst hps0
     simp at h1 h2
     exact Array.eq_empty_of_size_eq_zero (by omega)
    subst hp0
    have ho' : out = #[] := by simpa [Instr.fill] using ho.symm
    subst ho'
    simp [Instr.buildSlice, run_underlying ht, sizeOf, typeInfo, hi, Instr.fill, newRow]
    congr 2
    apply Array.ext'
    simp
   ·exact run_buildSlice (P := P) w t e len _ out i v ht hi hzv (by rw [hsz]; omega) h0 (by rw [hrow, hsz]; exact ho)
  have hlen : (ps.foldl (fun es q => es.set q.1 q.2) (replicate len (HV.pv z))).length = len := by rw [a90]; simp
  have hflen : out.size = len * sh.size := by
   have := hor.length
   rw [flat_length (fun x hx => (HV.fits_cells (aJ8 ps _ (fun q hq => (hps' q hq).2) hes x hx)).1), hlen] at this
   simpa using this.symm
  refine Done.new hm hfree (r := ax1 _ sh) (cur := out) (t := e) (vs := out.toList) (v := .slice (some ⟨w.heap.size, 0, none⟩) len len) ?_ ?_ ?_ ?_ ?_ hnb (fun T e bs h => (aZ4 _ _ T e bs h).elim) (by rw [aZ5]; exact Tails.nil _ _ _ _ _ _)
  ·rw [rB, hrun]; rfl
  ·rw [aK9, aQ6]
   intro x hx
   obtain ⟨y, hy, rfl⟩ := List.mem_map.1 hx
   exact bC4 (aJ8 ps _ (fun q hq => (hps' q hq).2) hes y hy)
  ·rw [Row.flat, aK9]; exact bc0 hor
  ·exact take_length
  ·intro w' I' ρ' hρ
   rw [aQ6] at hρ
   have := RepH.osl (w := w') (I := I') (off := 0) (len := len) (cap := len) hρ (by rw [hflen]; simp) (Nat.le_refl _)
   simpa using this
 ·cases hs
end
end Go.Vm
