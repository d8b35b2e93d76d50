import Derived.Test.YtchaaedlfibdoaaGreatDoorVmOps
open List (getElem?_take)
open Nat (le_refl)
open Option (bind_eq_bind map_some pure_def)
namespace Go.Vm
open Go.RowKit (Below)
section
variable {w : World} {I : Prot} {ρ : Nat → Option Loc} {v : Value}
theorem RepH.rptr_inv {sh : Shape} {e : PV} {off : Nat} (h : RepH w I ρ (.pv (.rptr sh e off)) v) : ∃ b o vs, v = .pointer (some ⟨b, o + off, none⟩) ∧ (∀ i, i < vs.length → I b (o + i)) ∧ e.fits sh = true ∧ RepPs w I e.cells vs [] ∧
  (∀ i x, vs[i]? = some x → w.cell? ⟨b, o + i, none⟩ = some x) := by
 cases h with
 | pv h => cases h with
  | rptr hI hf h hc => exact ⟨_, _, _, rfl, hI, hf, h, hc⟩
theorem RepH.optr_inv {id idx off : Nat} (h : RepH w I ρ (.optr id idx off) v) : ∃ g n sh, ρ id = some (.blk g n sh) ∧ v = .pointer (some ⟨g, idx * sh.size + off, none⟩) := by
 cases h with
 | optr h => exact ⟨_, _, _, h, rfl⟩
theorem RepH.nilsl_inv (h : RepH w I ρ (.pv .nilsl) v) : v = .slice none 0 0 := by
 cases h with
 | pv h => cases h; rfl
theorem RepH.uslNil_inv {sh : Shape} (h : RepH w I ρ (.pv (.usl sh [])) v) : v = .slice none 0 0 := by
 cases h with
 | pv h => cases h; rfl
theorem RepH.sl_inv {sh : Shape} {es : List PV} (h : RepH w I ρ (.pv (.sl sh es)) v) : ∃ a cap, v = .slice a es.length cap ∧ es.length ≤ cap ∧ (∀ e ∈ es, e.fits sh = true) ∧
  (a = none → es = [] ∧ cap = 0) ∧ (∀ x, a = some x → es = [] ∨ ∃ b o vs, x = ⟨b, o, none⟩ ∧ (∀ i, i < vs.length → I b (o + i)) ∧ RepPs w I (es.flatMap PV.cells) vs [] ∧ ∀ i u, vs[i]? = some u → w.cell? ⟨b, o + i, none⟩ = some u) := by
 cases h with
 | pv h => cases h with
  | slNil => exact ⟨none, 0, rfl, by simp, by simp, (fun _ => ⟨rfl, rfl⟩), (fun x hx => by cases hx)⟩
  | slE _ a cap => exact ⟨some a, cap, rfl, by simp, by simp, (fun h => by cases h), (fun x hx => .inl rfl)⟩
  | sl hI hf hcap h hc => exact ⟨_, _, rfl, hcap, hf, (fun h => by cases h), (fun x hx => by cases hx; exact .inr ⟨_, _, _, rfl, hI, h, hc⟩)⟩
theorem RepH.osl_inv {id off len : Nat} (h : RepH w I ρ (.osl id off len) v) : (∃ g n sh cap o, ρ id = some (.blk g n sh) ∧ v = .slice (some ⟨g, o, none⟩) len cap ∧ len ≤ cap ∧
  ((o = off * sh.size ∧ (off + cap) * sh.size = n) ∨ (len = 0 ∧ cap = 0 ∧ off ≠ 0))) ∨ (ρ id = some .nil ∧ off = 0 ∧ len = 0 ∧ v = .slice none 0 0) := by
 cases h with
 | oslNil h => exact .inr ⟨h, rfl, rfl, rfl⟩
 | osl h hn hl => exact .inl ⟨_, _, _, _, _, h, rfl, hl, .inl ⟨rfl, hn⟩⟩
 | oslEnd h ho => exact .inl ⟨_, _, _, _, _, h, rfl, le_refl _, .inr ⟨rfl, rfl, ho⟩⟩
end
theorem ao3 {cur : Array Value} {vs : List Value} (hp : cur.toList.take vs.length = vs) {w : World} {g : Nat} {t : TypeId} (hg : w.heap[g]? = some (.cells cur t (0, 0))) :
  ∀ i x, vs[i]? = some x → w.cell? ⟨g, i, none⟩ = some x := by
 intro i x hx
 rw [cell_of_row w g i cur t (0, 0) hg]
 rw [← hp, getElem?_take] at hx
 split at hx
 ·simpa using hx
 ·cases hx
theorem Row.flat_length {r : Row} {sh : Shape} (h : ∀ e ∈ r.es, e.fits sh = true) : ∀ e ∈ r.es, (HV.cells e).length = sh.size := fun e he => (HV.fits_cells (h e he)).1
theorem drop_take_get {α : Type} {vs : List α} {a n j : Nat} {x : α} (h : ((vs.drop a).take n)[j]? = some x) : vs[a + j]? = some x := by
 rw [getElem?_take] at h
 split at h
 ·rw [List.getElem?_drop] at h; exact h
 ·cases h
section
variable {P : Program} {w0 : Base} {I0 : Prot} {row : ad1} {w : World} {I : Prot} {ρ : Nat → Option Loc} {id0 : Nat} {ev : Operand → Value} {get : Nat → Option HV} {h : HV} {upd : Upd}
variable [Mode] (hget : ∀ (x : Operand) (vx : VA) (h : HV), opdOf x = some vx → vx.get get = some h → RepH w I ρ h (ev x)) (hm : Mem w0 I0 row w I ρ) (hfree : ∀ k, id0 ≤ k → k < id0 + 4 → ρ k = none)
include hget hm
theorem bX6 {c a b : Operand} {vc va vb : VA} (hc : opdOf c = some vc) (ha : opdOf a = some va) (hb : opdOf b = some vb) (hs : aa5 (.pick vc va vb) id0 get row = some (h, upd)) :
  Done P w0 I0 row w I ρ id0 (do pure (.value (if ← asBool (ev c) then ev a else ev b))) h upd := by
 simp only [aa5] at hs
 split at hs
 ·rename_i t ht
  rw [a96 hget hc ht]
  cases t
  ·simp only [Bool.false_eq_true, if_false, oM, pJ] at hs
   obtain ⟨x, hx, rfl, rfl⟩ := hs
   exact Done.quiet hm (by simp [asBool]) (hget b vb x hb hx)
  ·simp only [if_true, oM, pJ] at hs
   obtain ⟨x, hx, rfl, rfl⟩ := hs
   exact Done.quiet hm (by simp [asBool]) (hget a va x ha hx)
 ·cases hs
theorem ca1 {op : BinOp} {x y : Operand} {vx vy : VA} {t : TypeId} (hx : opdOf x = some vx) (hy : opdOf y = some vy) (hs : aa5 (.bin op vx vy) id0 get row = some (h, upd)) :
  Done P w0 I0 row w I ρ id0 (do pure (.value (← (do eqGuard op t x y (ev x) (ev y); binOp op t (ev x) (ev y))))) h upd := by
 simp only [aa5] at hs
 split at hs
 ·rename_i a b ha hb
  simp only [oM, pJ] at hs
  obtain ⟨q, hq, rfl, rfl⟩ := hs
  obtain ⟨v, hv, hr⟩ := run_binV (P := P) (w := w) (t := t) hget hx hy ha hb hq
  refine Done.quiet hm (v := v) ?_ (.pv hr)
  rw [rB, hv]
  rfl
 ·cases hs
theorem bI8 {op : BinOp} {neg : Bool} {x y : Operand} {vx vy : VA} {t : TypeId} (ht : P.underlying t = some .bool) (hop : (op = .eql ∧ neg = false) ∨ (op = .neq ∧ neg = true)) (hx : opdOf x = some vx) (hy : opdOf y = some vy)
  (hs : aa5 (.beq neg vx vy) id0 get row = some (h, upd)) : Done P w0 I0 row w I ρ id0 (do pure (.value (← (do eqGuard op t x y (ev x) (ev y); binOp op t (ev x) (ev y))))) h upd := by
 simp only [aa5] at hs
 split at hs
 ·rename_i a b ha hb
  simp only [oI, pJ] at hs
  obtain ⟨rfl, rfl⟩ := hs
  rw [a96 hget hx ha, a96 hget hy hb]
  refine Done.quiet hm (v := .bool (if neg then !decide (a = b) else decide (a = b))) ?_ (.pv (.bool _))
  rcases hop with ⟨rfl, rfl⟩ | ⟨rfl, rfl⟩ <;> simp [eqGuard, binOp, Op.equal, Op.maxDepth, run_equalIn_bool w _ t a b ht] <;> cases a <;> cases b <;> rfl
 ·cases hs
theorem bl3 {op : BinOp} {neg : Bool} {x y : Operand} {vx : VA} {t e : TypeId} (ht : P.underlying t = some (.slice e)) (hop : (op = .eql ∧ neg = false) ∨ (op = .neq ∧ neg = true)) (hx : opdOf x = some vx) (hy : ev y = .slice none 0 0)
  (hs : aa5 (.isNil neg vx) id0 get row = some (h, upd)) : Done P w0 I0 row w I ρ id0 (do pure (.value (← (do eqGuard op t x y (ev x) (ev y); binOp op t (ev x) (ev y))))) h upd := by
 have key : ∀ (a : Option Addr) (n c : Nat), (eqGuard op t x y (.slice a n c) (.slice none 0 0) >>= fun _ => binOp op t (.slice a n c) (.slice none 0 0) : Sem Value).run P w = .ok (.bool (if a.isNone then !neg else neg)) w := by
  intro a n c
  have heq : (Op.equal t (.slice a n c) (.slice none 0 0)).run P w = .ok a.isNone w := by
   show (Op.equalIn (9999 + 1) t _ _).run P w = _
   rw [Op.equalIn, rB, run_underlying ht, aO]
   cases a <;> rfl
  have h1 : binOp .eql t (.slice a n c) (.slice none 0 0) = (do pure (.bool (← Op.equal t (.slice a n c) (.slice none 0 0)))) := rfl
  have h2 : binOp .neq t (.slice a n c) (.slice none 0 0) = (do pure (.bool (!(← Op.equal t (.slice a n c) (.slice none 0 0))))) := rfl
  have g1 : (eqGuard .eql t x y (.slice a n c) (.slice none 0 0)).run P w = .ok () w := by simp [eqGuard]
  have g2 : (eqGuard .neq t x y (.slice a n c) (.slice none 0 0)).run P w = .ok () w := by simp [eqGuard]
  rcases hop with ⟨rfl, rfl⟩ | ⟨rfl, rfl⟩
  ·rw [rB, g1, aO, h1, rB, heq]
   cases a <;> rfl
  ·rw [rB, g2, aO, h2, rB, heq]
   cases a <;> rfl
 simp only [aa5] at hs
 rw [hy]
 split at hs
 ·rename_i hsx
  simp only [oI, pJ] at hs
  obtain ⟨rfl, rfl⟩ := hs
  rw [(hget x vx _ hx hsx).nilsl_inv]
  exact Done.quiet hm (v := .bool (!neg)) (by rw [rB, key none 0 0]; rfl) (.pv (.bool _))
 ·rename_i hsx
  simp only [oI, pJ] at hs
  obtain ⟨rfl, rfl⟩ := hs
  rw [(hget x vx _ hx hsx).uslNil_inv]
  exact Done.quiet hm (v := .bool (!neg)) (by rw [rB, key none 0 0]; rfl) (.pv (.bool _))
 ·rename_i hsx
  simp only [oI, pJ] at hs
  obtain ⟨rfl, rfl⟩ := hs
  have hr := hget x vx _ hx hsx
  generalize ev x = v at hr ⊢
  cases hr with | pv hr =>
  cases hr
  exact Done.quiet hm (v := .bool neg) (by rw [rB, key]; rfl) (.pv (.bool _))
 ·rename_i sh es hsx
  split at hs
  ·cases hs
  ·rename_i hne
   simp only [oI, pJ] at hs
   obtain ⟨rfl, rfl⟩ := hs
   obtain ⟨a, cap, hv, hcap, hf, hnone, hsome⟩ := (hget x vx _ hx hsx).sl_inv
   cases a with
   | none => exact absurd (by rw [(hnone rfl).1]; rfl) hne
   | some a =>
    rw [hv]
    exact Done.quiet hm (v := .bool neg) (by rw [rB, key]; rfl) (.pv (.bool _))
 ·cases hs
theorem ca2 {x : Operand} {vx : VA} (hx : opdOf x = some vx) (hs : aa5 (.not vx) id0 get row = some (h, upd)) : Done P w0 I0 row w I ρ id0 (do pure (.value (← Op.unary .not (ev x)))) h upd := by
 simp only [aa5] at hs
 split at hs
 ·rename_i a ha
  simp only [oI, pJ] at hs
  obtain ⟨rfl, rfl⟩ := hs
  rw [a96 hget hx ha]
  exact Done.quiet hm (by simp [Op.unary]) (.pv (.bool _))
 ·cases hs
theorem ca3 {x : Operand} {vx : VA} (hx : opdOf x = some vx) (hs : aa5 (.neg vx) id0 get row = some (h, upd)) : Done P w0 I0 row w I ρ id0 (do pure (.value (← Op.unary .neg (ev x)))) h upd := by
 simp only [aa5] at hs
 split at hs
 ·rename_i k a ha
  simp only [oI, pJ] at hs
  obtain ⟨rfl, rfl⟩ := hs
  rw [ao2 hget hx ha]
  exact Done.quiet hm (by simp [Op.unary, Op.intArith]) (.pv (.int _ _))
 ·cases hs
theorem bO0 {x : Operand} {vx : VA} (hx : opdOf x = some vx) (hs : aa5 (.compl vx) id0 get row = some (h, upd)) : Done P w0 I0 row w I ρ id0 (do pure (.value (← Op.unary .xor (ev x)))) h upd := by
 simp only [aa5] at hs
 split at hs
 ·rename_i k a ha
  simp only [oI, pJ] at hs
  obtain ⟨rfl, rfl⟩ := hs
  rw [ao2 hget hx ha]
  exact Done.quiet hm (by simp [Op.unary, Op.intBits, notI]) (.pv (.int _ _))
 ·cases hs
theorem bX7 {x : Operand} {vx : VA} {s d : TypeId} {k k' : IntKind} (hd : P.underlying d = some (.int k)) (hsrc : P.underlying s = some (.int k')) (hx : opdOf x = some vx)
  (hs : aa5 (.conv k vx) id0 get row = some (h, upd)) : Done P w0 I0 row w I ρ id0 (do pure (.value (← convert s d (ev x)))) h upd := by
 simp only [aa5] at hs
 split at hs
 ·rename_i k2 a ha
  simp only [oI, pJ] at hs
  obtain ⟨rfl, rfl⟩ := hs
  rw [ao2 hget hx ha]
  exact Done.quiet hm (by simp [convert, run_underlying hd, run_underlying hsrc, Conv.intToInt]) (.pv (.int _ _))
 ·cases hs
theorem bX8 {x : Operand} {vx : VA} {s d : TypeId} (hd : P.underlying d = some .string) (hsrc : P.underlying s = some .string) (hx : opdOf x = some vx)
  (hs : aa5 (.same vx) id0 get row = some (h, upd)) : Done P w0 I0 row w I ρ id0 (do pure (.value (← convert s d (ev x)))) h upd := by
 simp only [aa5] at hs
 split at hs
 ·rename_i a ha
  simp only [oI, pJ] at hs
  obtain ⟨rfl, rfl⟩ := hs
  rw [a39 hget hx ha]
  exact Done.quiet hm (by simp [convert, run_underlying hd, run_underlying hsrc]) (.pv (.str _))
 ·cases hs
omit hget hm in
theorem aZ3 (hget : ∀ (x : Operand) (vx : VA) (h : HV), opdOf x = some vx → vx.get get = some h → RepH w I ρ h (ev x)) : ∀ {xs : List Operand} {vxs : List VA} {hs : List HV}, xs.mapM opdOf = some vxs → vxs.mapM (VA.get get) = some hs → RepHs w I ρ hs (xs.map ev)
 | [], vxs, hs, h1, h2 => by simp at h1; subst h1; simp at h2; subst h2; exact .nil
 | x :: xs, vxs, hs, h1, h2 => by
  simp only [List.mapM_cons, bind_eq_bind, pure_def, oE] at h1
  obtain ⟨vx, hvx, vxs', hvxs, h1⟩ := h1
  simp only [oI] at h1; subst h1
  simp only [List.mapM_cons, bind_eq_bind, pure_def, oE] at h2
  obtain ⟨y, hy, ys, hys, h2⟩ := h2
  simp only [oI] at h2; subst h2
  exact .cons (hget x vx y hvx hy) (aZ3 hget hvxs hys)
theorem bX9 {f : FuncId} {caps : List Operand} {vcaps : List VA} (hx : caps.mapM opdOf = some vcaps) (hs : aa5 (.mkfn f vcaps) id0 get row = some (h, upd)) :
  Done P w0 I0 row w I ρ id0 (do pure (.value (← Instr.makeFunc (.func f) #[] (caps.map ev).toArray))) h upd := by
 simp only [aa5, oM, pJ] at hs
 obtain ⟨hs', hg, rfl, rfl⟩ := hs
 have hr := aZ3 hget hx hg
 refine Done.quiet hm (v := .func (.func f) #[] (caps.map ev).toArray) (by simp [Instr.makeFunc]) ?_
 split
 ·rename_i ps hps
  rw [aC1 hps] at hr
  exact .pv (.fn f (by simpa using hr.toP))
 ·exact .fn f (by simpa using hr)
theorem bY0 {f : FuncId} {first : List Operand} {vfirst : List VA} (hx : first.mapM opdOf = some vfirst) (hs : aa5 (.mkbf f vfirst) id0 get row = some (h, upd)) :
  Done P w0 I0 row w I ρ id0 (do pure (.value (← Instr.makeFunc (.func f) (first.map ev).toArray #[]))) h upd := by
 simp only [aa5, oE, oM, pJ] at hs
 obtain ⟨hs', hg, ps, hps, rfl, rfl⟩ := hs
 have hr := aZ3 hget hx hg
 rw [aC1 hps] at hr
 exact Done.quiet hm (v := .func (.func f) (first.map ev).toArray #[]) (by simp [Instr.makeFunc]) (.pv (.bfn f (by simpa using hr.toP)))
omit hm in
theorem az9 {x : Option Operand} {vx : Option VA} {d n : Nat} (hx : (match x with | none => some none | some o => (opdOf o).map some) = some vx) (hl : aJ6 get d vx = some n) :
  (x = none ∧ n = d) ∨ ∃ o k, x = some o ∧ ev o = .int k n := by
 cases x with
 | none =>
  simp only [oI] at hx; subst hx
  simp only [aJ6, oI] at hl
  exact .inl ⟨rfl, hl.symm⟩
 | some o =>
  simp only [oM] at hx
  obtain ⟨v, hv, rfl⟩ := hx
  simp only [aJ6] at hl
  split at hl
  ·rename_i k m hm'
   split at hl
   ·rename_i h0
    simp only [oI] at hl; subst hl
    refine .inr ⟨o, k, rfl, ?_⟩
    rw [ao2 hget hv hm']
    congr 1; omega
   ·cases hl
  ·cases hl
omit hget hm in
omit [Mode] in
theorem ao4 {isSlice : Bool} {len cap l h : Nat} {lo hi : Option Value} (hlo : (lo = none ∧ l = 0) ∨ ∃ k, lo = some (.int k l)) (hhi : (hi = none ∧ h = len) ∨ ∃ k, hi = some (.int k h))
  (h1 : l ≤ h) (h2 : h ≤ cap) : (Instr.sliceBounds isSlice len cap lo hi none).run P w = .ok (l, h, cap) w := by
 have hb : ∀ (k : IntKind) (n y : Nat) (c : BoundsCode), n ≤ y → (Instr.sliceBound (.int k n) y c).run P w = .ok n w := by
  intro k n y c hn
  have := run_sliceBound (P := P) (w := w) k (n : Int) y c (by omega) (by omega)
  simpa using this
 rcases hlo with ⟨rfl, rfl⟩ | ⟨k, rfl⟩ <;> rcases hhi with ⟨rfl, rfl⟩ | ⟨k', rfl⟩ <;>
  simp [Instr.sliceBounds, hb _ _ _ _ h1, hb _ _ _ _ h2]
theorem bO1 {x : Operand} {lo hi : Option Operand} {vx : VA} {vlo vhi : Option VA} {t : TypeId} (ht : P.underlying t = some .string) (hx : opdOf x = some vx)
  (hlo : (match lo with | none => some none | some o => (opdOf o).map some) = some vlo) (hhi : (match hi with | none => some none | some o => (opdOf o).map some) = some vhi)
  (hs : aa5 (.slStr vx vlo vhi) id0 get row = some (h, upd)) : Done P w0 I0 row w I ρ id0 (do pure (.value (← Instr.sliceAt t (ev x) (lo.map ev) (hi.map ev) none))) h upd := by
 simp only [aa5] at hs
 split at hs
 ·rename_i s hsx
  simp only [oE] at hs
  obtain ⟨l, hl, r, hr, hs⟩ := hs
  split at hs
  ·rename_i hc
   simp only [oI, pJ] at hs
   obtain ⟨rfl, rfl⟩ := hs
   rw [a39 hget hx hsx]
   have hsz : (ByteArray.mk s.toArray).size = s.length := by simp [ByteArray.size]
   have h1 := az9 hget hlo hl
   have h2 := az9 hget hhi hr
   have hb := ao4 (P := P) (w := w) (isSlice := false) (len := s.length) (cap := s.length) (lo := lo.map ev) (hi := hi.map ev)
    (by rcases h1 with ⟨rfl, rfl⟩ | ⟨o, k, rfl, e⟩ <;> simp [*]) (by rcases h2 with ⟨rfl, rfl⟩ | ⟨o, k, rfl, e⟩ <;> simp [*]) hc.1 hc.2
   refine Done.quiet hm (v := .string ⟨((s.take r).drop l).toArray⟩) ?_ (.pv (.str _))
   simp only [Instr.sliceAt, rB, run_underlying ht, aO, Instr.slice, hsz, Option.isSome_none, Bool.false_eq_true, if_false, hb, Sem.run_pure]
   rw [ByteArray.extract_mk, List.drop_take]
  ·cases hs
 ·cases hs
theorem bO2 {x lo hi mx : Operand} {vx vlo vhi vmx : VA} {t e : TypeId} {sh : Shape} (ht : P.underlying t = some (.slice e)) (he : aa9 P e = some sh) (hx : opdOf x = some vx)
  (hlo : opdOf lo = some vlo) (hhi : opdOf hi = some vhi) (hmx : opdOf mx = some vmx)
  (hs : aa5 (.slSl3 vx vlo vhi vmx) id0 get row = some (h, upd)) : Done P w0 I0 row w I ρ id0 (do pure (.value (← Instr.sliceAt t (ev x) (some (ev lo)) (some (ev hi)) (some (ev mx))))) h upd := by
 have bd : ∀ {y : Operand} {vy : VA} {n : Nat}, opdOf y = some vy → aJ6 get 0 (some vy) = some n → ∃ k, ev y = .int k n := by
  intro y vy n hy hl
  rcases az9 hget (x := some y) (vx := some vy) (by simp [hy]) hl with ⟨h1, _⟩ | ⟨o, k, h1, e⟩
  ·cases h1
  ·cases h1; exact ⟨k, e⟩
 have key : ∀ (a : Option Addr) (len cap l r m : Nat), aJ6 get 0 (some vlo) = some l → aJ6 get 0 (some vhi) = some r → aJ6 get 0 (some vmx) = some m → l ≤ r → r ≤ m → m ≤ cap →
   ∃ a' n' c', (Instr.sliceAt t (.slice a len cap) (some (ev lo)) (some (ev hi)) (some (ev mx))).run P w = .ok (.slice a' n' c') w := by
  intro a len cap l r m hl hr hm' h1 h2 h3
  obtain ⟨k1, e1⟩ := bd hlo hl
  obtain ⟨k2, e2⟩ := bd hhi hr
  obtain ⟨k3, e3⟩ := bd hmx hm'
  have hb : ∀ (k : IntKind) (n y : Nat) (c : BoundsCode), n ≤ y → (Instr.sliceBound (.int k n) y c).run P w = .ok n w := by
   intro k n y c hn
   have := run_sliceBound (P := P) (w := w) k (n : Int) y c (by omega) (by omega)
   simpa using this
  refine ⟨if m = l then a else a.map (·.add (l * sh.size)), r - l, m - l, ?_⟩
  simp only [Instr.sliceAt, rB, run_underlying ht, aO, Instr.slice, Instr.sliceBounds, e1, e2, e3, hb _ _ _ _ h1, hb _ _ _ _ h2, hb _ _ _ _ h3, ad7 he, Sem.run_pure, Option.isSome_some, if_true]
 have fin : ∀ (a : Option Addr) (len cap l r m : Nat), ev x = .slice a len cap → aJ6 get 0 (some vlo) = some l → aJ6 get 0 (some vhi) = some r → aJ6 get 0 (some vmx) = some m → l ≤ r → r ≤ m → m ≤ cap →
   Done P w0 I0 row w I ρ id0 (do pure (.value (← Instr.sliceAt t (ev x) (some (ev lo)) (some (ev hi)) (some (ev mx))))) .any [] := by
  intro a len cap l r m hv hl hr hm' h1 h2 h3
  obtain ⟨a', n', c', hrun⟩ := key a len cap l r m hl hr hm' h1 h2 h3
  rw [hv]
  exact Done.quiet hm (by rw [rB, hrun]; rfl) (.any a' n' c')
 simp only [aa5] at hs
 split at hs
 ·rename_i hsx
  simp only [oE] at hs
  obtain ⟨l, hl, r, hr, m, hm', hs⟩ := hs
  split at hs
  ·rename_i hc
   simp only [oI, pJ] at hs
   obtain ⟨rfl, rfl⟩ := hs
   exact fin _ _ _ l r m (hget x vx _ hx hsx).nilsl_inv hl hr hm' hc.1 hc.2.1 (by omega)
  ·cases hs
 ·rename_i sh' es hsx
  simp only [oE] at hs
  obtain ⟨l, hl, r, hr, m, hm', hs⟩ := hs
  split at hs
  ·rename_i hc
   simp only [oI, pJ] at hs
   obtain ⟨rfl, rfl⟩ := hs
   obtain ⟨a, cap, hv, hcap, _⟩ := (hget x vx _ hx hsx).sl_inv
   exact fin _ _ _ l r m hv hl hr hm' hc.1 hc.2.1 (by omega)
  ·cases hs
 ·rename_i id off len hsx
  simp only [oE] at hs
  obtain ⟨l, hl, r, hr, m, hm', hs⟩ := hs
  split at hs
  ·rename_i hc
   simp only [oI, pJ] at hs
   obtain ⟨rfl, rfl⟩ := hs
   rcases (hget x vx _ hx hsx).osl_inv with ⟨g, n, sh', cap, o, hρ, hv, hcap, ho⟩ | ⟨hρ, _, rfl, hv⟩
   ·exact fin _ _ _ l r m hv hl hr hm' hc.1 hc.2.1 (by omega)
   ·exact fin _ _ _ l r m hv hl hr hm' hc.1 hc.2.1 (by omega)
  ·cases hs
 ·cases hs
theorem bY1 {x : Operand} {lo hi : Option Operand} {vx : VA} {vlo vhi : Option VA} {t e : TypeId} {sh : Shape} (ht : P.underlying t = some (.slice e)) (he : aa9 P e = some sh) (hx : opdOf x = some vx)
  (hlo : (match lo with | none => some none | some o => (opdOf o).map some) = some vlo) (hhi : (match hi with | none => some none | some o => (opdOf o).map some) = some vhi)
  (hs : aa5 (.slSl sh vx vlo vhi) id0 get row = some (h, upd)) : Done P w0 I0 row w I ρ id0 (do pure (.value (← Instr.sliceAt t (ev x) (lo.map ev) (hi.map ev) none))) h upd := by
 have key : ∀ (a : Option Addr) (len cap l r : Nat), aJ6 get 0 vlo = some l → aJ6 get len vhi = some r → l ≤ r → r ≤ cap →
   (Instr.sliceAt t (.slice a len cap) (lo.map ev) (hi.map ev) none).run P w = .ok (.slice (if cap = l then a else a.map (·.add (l * sh.size))) (r - l) (cap - l)) w := by
  intro a len cap l r hl hr h1 h2
  have h1' := az9 hget hlo hl
  have h2' := az9 hget hhi hr
  have hb := ao4 (P := P) (w := w) (isSlice := true) (len := len) (cap := cap) (lo := lo.map ev) (hi := hi.map ev)
    (by rcases h1' with ⟨rfl, rfl⟩ | ⟨o, k, rfl, e⟩ <;> simp [*]) (by rcases h2' with ⟨rfl, rfl⟩ | ⟨o, k, rfl, e⟩ <;> simp [*]) h1 h2
  simp only [Instr.sliceAt, rB, run_underlying ht, aO, Instr.slice, hb, ad7 he, Sem.run_pure]
 simp only [aa5] at hs
 split at hs
 ·rename_i hsx
  simp only [oE] at hs
  obtain ⟨l, hl, r, hr, hs⟩ := hs
  split at hs
  ·rename_i hc
   obtain ⟨rfl, rfl⟩ := hc
   simp only [oI, pJ] at hs
   obtain ⟨rfl, rfl⟩ := hs
   rw [(hget x vx _ hx hsx).nilsl_inv]
   refine Done.quiet hm (v := .slice none 0 0) ?_ (.pv .nilsl)
   rw [rB, key none 0 0 0 0 hl hr (le_refl _) (le_refl _)]
   simp
  ·cases hs
 ·rename_i hsx
  simp only [oE] at hs
  obtain ⟨l, hl, r, hr, hs⟩ := hs
  split at hs
  ·rename_i hc
   obtain ⟨rfl, rfl⟩ := hc
   simp only [oI, pJ] at hs
   obtain ⟨rfl, rfl⟩ := hs
   rw [(hget x vx _ hx hsx).uslNil_inv]
   refine Done.quiet hm (v := .slice none 0 0) ?_ (.pv .nilsl)
   rw [rB, key none 0 0 0 0 hl hr (le_refl _) (le_refl _)]
   simp
  ·cases hs
 ·rename_i sh' es hsx
  simp only [oE] at hs
  obtain ⟨l, hl, r, hr, hs⟩ := hs
  split at hs
  ·rename_i hc
   obtain ⟨rfl, hlr, hre⟩ := hc
   simp only [oI, pJ] at hs
   obtain ⟨rfl, rfl⟩ := hs
   obtain ⟨a, cap, hv, hcap, hf, hnone, hsome⟩ := (hget x vx _ hx hsx).sl_inv
   rw [hv]
   have hrun := key a es.length cap l r hl hr hlr (by omega)
   refine Done.quiet hm (by rw [rB, hrun]; rfl) ?_
   have hlen : ((es.take r).drop l).length = r - l := by simp; omega
   have hf' : ∀ e ∈ (es.take r).drop l, e.fits sh' = true := fun e he => hf e (List.mem_of_mem_take (List.mem_of_mem_drop he))
   cases a with
   | none =>
    obtain ⟨rfl, rfl⟩ := hnone rfl
    have : l = 0 ∧ r = 0 := by simp at hre; omega
    obtain ⟨rfl, rfl⟩ := this
    simpa using RepH.pv (RepP.slNil sh')
   | some a =>
    rcases hsome a rfl with rfl | ⟨b, o, vs, rfl, hI, hvs, hcell⟩
    ·have : r - l = 0 := by simp at hre; omega
     rw [this]
     have e : ((([] : List PV).take r).drop l) = [] := by simp
     rw [e]
     by_cases hcl : cap = l
     ·rw [iP hcl]; exact .pv (.slE _ _ _)
     ·rw [iN hcl, map_some]; exact .pv (.slE _ _ _)
    have hu : RepPs w I (((es.take r).drop l).flatMap PV.cells) ((vs.take (r * sh'.size)).drop (l * sh'.size)) [] := by
     have h0 : ∀ e ∈ es, e.cells.length = sh'.size := fun e he => (PV.fits_cells (hf e he)).1
     have h1 := ((hvs.toH (ρ := ρ) rfl).take (r * sh'.size)).drop (l * sh'.size)
     rw [← List.map_take, as8 h0, ← List.map_drop, aG0 (fun e he => h0 e (List.mem_of_mem_take he))] at h1
     exact h1.toP
    by_cases hcl : cap = l
    ·rw [iP hcl]
     subst hcl
     have : (es.take r).drop cap = [] := List.drop_of_length_le (by simp; omega)
     rw [this, show r - cap = ([] : List PV).length by simp; omega]
     exact .pv (.sl (by simp) (by simp) (by simp) .nil (fun i v hv => by simp at hv))
    ·rw [iN hcl, map_some, ag2, ← hlen]
     refine .pv (.sl (fun i hlt => by rw [Nat.add_assoc]; exact hI _ (by simp at hlt; omega)) hf' (by omega) hu fun i v hv => ?_)
     rw [Nat.add_assoc]
     refine hcell _ _ ?_
     rw [List.getElem?_drop, getElem?_take] at hv
     split at hv
     ·exact hv
     ·cases hv
  ·cases hs
 ·rename_i id off len hsx
  simp only [oE] at hs
  obtain ⟨l, hl, r, hr, hs⟩ := hs
  split at hs
  ·rename_i hc
   obtain ⟨hsh, hlr, hre⟩ := hc
   simp only [oI, pJ] at hs
   obtain ⟨rfl, rfl⟩ := hs
   rcases (hget x vx _ hx hsx).osl_inv with ⟨g, n, sh', cap, o, hρ, hv, hcap, ho⟩ | ⟨hρ, rfl, rfl, hv⟩
   ·rw [hv]
    have hrun := key (some ⟨g, o, none⟩) len cap l r hl hr hlr (by omega)
    refine Done.quiet hm (by rw [rB, hrun]; rfl) ?_
    have hsz : sh' = sh := by
     simp only [am3] at hsh
     cases hrow : row id with
     | none => simp [hrow] at hsh
     | some rr =>
      simp [hrow] at hsh
      obtain ⟨l', h1, h2⟩ := hm.rows id rr hrow
      rw [hρ] at h1
      simp only [oI] at h1; subst h1
      rw [← (h2.cells (bC3 hsh.2)).1]; exact hsh.1
    subst hsz
    by_cases hcl : cap = l
    ·rw [iP hcl]
     have : r - l = 0 := by omega
     rw [this, show cap - l = 0 by omega]
     rcases ho with ⟨rfl, hn⟩ | ⟨rfl, rfl, hne⟩
     ·by_cases hz : off + l = 0
      ·have e1 : off = 0 := by omega
       have e2 : l = 0 := by omega
       subst e1 e2
       have : RepH w I ρ (.osl id 0 0) (.slice (some ⟨g, 0 * sh'.size, none⟩) 0 0) := .osl hρ (by rw [← hn, hcl]) (le_refl _)
       simpa using this
      ·exact .oslEnd hρ hz
     ·exact .oslEnd hρ (by omega)
    ·rw [iN hcl, map_some, ag2]
     rcases ho with ⟨rfl, hn⟩ | ⟨rfl, rfl, hne⟩
     ·rw [← Nat.add_mul]
      exact .osl hρ (by rw [← hn]; congr 1; omega) (by omega)
     ·omega
   ·rw [hv]
    have : l = 0 ∧ r = 0 := by omega
    obtain ⟨rfl, rfl⟩ := this
    have hrun := key none 0 0 0 0 hl hr (le_refl _) (le_refl _)
    refine Done.quiet hm (by rw [rB, hrun]; rfl) ?_
    simpa using RepH.oslNil hρ
  ·cases hs
 ·cases hs
end
end Go.Vm
