import Derived.Test.YtchaaedlfibdoaaGreatDoorVmMem
import Derived.Great.BuildSlice
open Go.IntKind (i64 signed)
namespace Go.Vm
open Go.RowKit (Below)
def aa9 (P : Program) (t : TypeId) : Option Shape :=
 match P.underlying t, P.info? t with
 | some (.struct _), some i => some (some i.size)
 | some (.array _ _), some i => some (some i.size)
 | some _, some i => if i.size = 1 then some none else none
 | _, _ => none
def aS9 : PV → Value → Bool
 | .bool a, .bool b => a == b
 | .int k n, .int k' m => decide (k = k') && decide (n = m)
 | .str s, .string t => decide (s = t.data.toList)
 | .nilsl, .slice none 0 0 => true
 | .sl _ [], .slice none 0 0 => true
 | .usl _ [], .slice none 0 0 => true
 | .nilptr, .pointer none => true
 | .nilfn, .nilFunc => true
 | .niliface, .nilIface => true
 | _, _ => false
def az8 : List PV → List Value → Bool
 | [], [] => true
 | p :: ps, v :: vs => aS9 p v && az8 ps vs
 | _, _ => false
def bb6 : PV → Value → Bool
 | .agg cs, .agg vs => az8 cs vs.toList
 | p, v => aS9 p v
theorem aV6 {w : World} {I : Prot} {p : PV} {v : Value} (h : aS9 p v = true) : RepP w I p v [] := by
 unfold aS9 at h
 split at h <;> simp at h
 ·subst h; exact .bool _
 ·obtain ⟨rfl, rfl⟩ := h; exact .int _ _
 ·subst h; exact .str _
 ·exact .nilsl
 ·exact .slNil _
 ·exact .uslNil _
 ·exact .nilptr
 ·exact .nilfn
 ·exact .niliface
theorem aQ5 {w : World} {I : Prot} : ∀ {ps : List PV} {vs : List Value}, az8 ps vs = true → RepPs w I ps vs []
 | [], [], _ => .nil
 | p :: ps, v :: vs, h => by
  simp only [az8, bA] at h
  exact .cons (F := []) (G := []) (aV6 h.1) (aQ5 h.2)
 | [], _ :: _, h => by simp [az8] at h
 | _ :: _, [], h => by simp [az8] at h
theorem closed_rep {w : World} {I : Prot} {p : PV} {v : Value} (h : bb6 p v = true) : RepP w I p v [] := by
 unfold bb6 at h
 split at h
 ·exact .agg (aQ5 h)
 ·exact aV6 h
def bu4 : Value → PV
 | .bool b => .bool b
 | .int k n => .int k n
 | .string s => .str s.data.toList
 | .slice _ _ _ => .nilsl
 | .pointer _ => .nilptr
 | .nilFunc => .nilfn
 | _ => .niliface
def ci5 : Value → PV
 | .agg cs => .agg (cs.toList.map bu4)
 | v => bu4 v
def opdOf [Mode] : Operand → Option VA
 | .tmp t => if t < 1000000 then some (.t t) else none
 | .const v => if bb6 (ci5 v) v = true then some (.c (ci5 v)) else none
 | .func f => some (.c (.fn f []))
 | .global g => if Mode.y = true ∧ Mode.g = some g then some (.c bC2) else none
def bX5 (P : Program) : Nat → TypeId → Option (List PV)
 | 0, _ => none
 | d + 1, t => match P.underlying t with
  | some .bool => some [.bool false]
  | some (.int k) => some [.int k 0]
  | some .string => some [.str []]
  | some (.slice e) => (aa9 P e).map fun sh => [.usl sh []]
  | some (.pointer _) => some [.nilptr]
  | some (.func ..) => some [.nilfn]
  | some (.interface _) => some [.niliface]
  | some (.struct fs) => (fs.toList.mapM fun f => bX5 P d f.type).map List.flatten
  | some (.array n e) => (bX5 P d e).map fun cs => (List.replicate n cs).flatten
  | _ => none
def aC2 (P : Program) (t : TypeId) : Option PV :=
 match aa9 P t, bX5 P 8 t, (P.info? t).bind (·.zero) with
 | some none, some [p], some v => if bb6 p v = true ∧ p.one = true then some p else none
 | some (some n), some cs, some v => if bb6 (.agg cs) v = true ∧ cs.length = n ∧ cs.all PV.one = true then some (.agg cs) else none
 | _, _, _ => none
theorem as9 {P : Program} {t : TypeId} {z : PV} (h : aC2 P t = some z) : ∃ i v sh, P.info? t = some i ∧ i.zero = some v ∧ aa9 P t = some sh ∧ z.fits sh = true ∧ bb6 z v = true := by
 unfold aC2 at h
 split at h
 ·rename_i p v h1 h2 h3
  split at h
  ·rename_i hc
   simp only [oI] at h; subst h
   obtain ⟨i, hi, hz⟩ := oE.1 h3
   exact ⟨i, v, none, hi, hz, h1, hc.2, hc.1⟩
  ·cases h
 ·rename_i n cs v h1 h2 h3
  split at h
  ·rename_i hc
   simp only [oI] at h; subst h
   obtain ⟨i, hi, hz⟩ := oE.1 h3
   refine ⟨i, v, some n, hi, hz, h1, ?_, hc.1⟩
   simp only [PV.fits, bA, beq_iff_eq]
   exact ⟨hc.2.1, hc.2.2⟩
  ·cases h
 ·cases h
section
variable {P : Program} {w : World}
theorem ad9 {t : TypeId} {sh : Shape} (h : aa9 P t = some sh) : ∃ i d, P.info? t = some i ∧ P.underlying t = some d ∧ i.size = sh.size ∧ (match d with | .struct _ | .array _ _ => true | _ => false) = sh.isSome := by
 unfold aa9 at h
 split at h
 ·rename_i i hu hi; simp only [oI] at h; subst h; exact ⟨i, _, hi, hu, rfl, rfl⟩
 ·rename_i i hu hi; simp only [oI] at h; subst h; exact ⟨i, _, hi, hu, rfl, rfl⟩
 ·rename_i d i h1 h2 hu hi
  split at h
  ·rename_i hs
   simp only [oI] at h; subst h
   refine ⟨i, d, hi, hu, hs, ?_⟩
   cases d <;> first | rfl | exact (h1 _ rfl).elim | exact (h2 _ _ rfl).elim
  ·cases h
 ·cases h
theorem ad7 {t : TypeId} {sh : Shape} (h : aa9 P t = some sh) (w : World) : (sizeOf t).run P w = .ok sh.size w := by
 obtain ⟨i, d, hi, hu, hs, _⟩ := ad9 h
 simp [sizeOf, typeInfo, hi, hs]
theorem ak0 {t : TypeId} {sh : Shape} (h : aa9 P t = some sh) (w : World) : (isAgg t).run P w = .ok sh.isSome w := by
 obtain ⟨i, d, hi, hu, hs, ha⟩ := ad9 h
 rw [← ha]
 unfold isAgg
 rw [rB, run_underlying hu w]
 cases d <;> rfl
theorem ag2 (g o n : Nat) : (⟨g, o, none⟩ : Addr).add n = ⟨g, o + n, none⟩ := by unfold Addr.add; split <;> simp_all
theorem ah1 {t : TypeId} {sh : Shape} (h : aa9 P t = some sh) {g o : Nat} {us : List Value} (hl : us.length = sh.size) (hc : ∀ j v, us[j]? = some v → w.cell? ⟨g, o + j, none⟩ = some v) :
  (loadVar t ⟨g, o, none⟩).run P w = .ok (aw7 sh us) w := by
 cases sh with
 | none =>
  cases us with
  | nil => simp [Shape.size] at hl
  | cons u us =>
   have h0 := hc 0 u rfl
   simp only [Nat.add_zero] at h0
   simp [loadVar, ak0 h, h0, aw7]
 | some n =>
  have hl' : us.length = n := hl
  subst hl'
  have hr := run_loadCells_list (P := P) w ⟨g, o, none⟩ us (fun j v hv => by rw [ag2]; exact hc j v hv)
  simp [loadVar, ak0 h, ad7 h, hr, aw7, Shape.size]
theorem ak8 {t : TypeId} {sh : Shape} (h : aa9 P t = some sh) {g o : Nat} {v : Value} {cur : Array Value} {ty : TypeId} (hv : v.cells.size = sh.size) (hg : w.heap[g]? = some (.cells cur ty (0, 0)))
  (hfit : o + sh.size ≤ cur.size) (h1 : ∀ x ∈ v.cells.toList, x.oneCell' = true) :
  (storeVar t ⟨g, o, none⟩ v).run P w = .ok () (w.setRow g (splice cur.toList o v.cells.toList).toArray) := by
 have hst := run_storeCells_at P g o ty v.cells.toList 0 cur w hg (by simp [hv]; omega) h1
 simp only [Nat.add_zero] at hst
 simp only [storeVar, rB, ad7 h, aO, hv, ne_eq, not_true, if_false]
 simpa [splice] using hst
end
section
variable {w : World} {I : Prot} {ρ : Nat → Option Loc} {v : Value}
theorem RepH.bool_inv {b : Bool} (h : RepH w I ρ (.pv (.bool b)) v) : v = .bool b := by cases h with | pv h => cases h; rfl
theorem RepH.int_inv {k : IntKind} {n : Int} (h : RepH w I ρ (.pv (.int k n)) v) : v = .int k n := by cases h with | pv h => cases h; rfl
theorem RepH.str_inv {s : List UInt8} (h : RepH w I ρ (.pv (.str s)) v) : v = .string ⟨s.toArray⟩ := by cases h with | pv h => cases h; rfl
end
def Done [Mode] (P : Program) (w0 : Base) (I0 : Prot) (row : ad1) (w : World) (I : Prot) (ρ : Nat → Option Loc) (id0 : Nat) (s : Sem Next) (h : HV) (upd : Upd) : Prop :=
 ∃ nx v w' I' ρ', s.run P w = .ok nx w' ∧ (nx = .value v ∨ (nx = .skip ∧ v = undef)) ∧ Mem w0 I0 (ae8 row upd) w' I' ρ' ∧ RepH w' I' ρ' h v ∧
  Grow w I ρ w' I' ρ' (fun k => id0 ≤ k ∧ k < id0 + 4)
section
variable [Mode] {P : Program} {w0 : Base} {I0 : Prot} {row : ad1} {w : World} {I : Prot} {ρ : Nat → Option Loc} {id0 : Nat} {ev : Operand → Value} {get : Nat → Option HV}
theorem Done.quiet {s : Sem Next} {h : HV} {v : Value} (hm : Mem w0 I0 row w I ρ) (hr : s.run P w = .ok (.value v) w) (hv : RepH w I ρ h v) : Done P w0 I0 row w I ρ id0 s h [] :=
 ⟨_, v, w, I, ρ, hr, .inl rfl, hm, hv, .refl⟩
theorem Done.new {s : Sem Next} {h : HV} {v : Value} (hm : Mem w0 I0 row w I ρ) (hfree : ∀ k, id0 ≤ k → k < id0 + 4 → ρ k = none) {r : Row} {cur : Array Value} {t : TypeId} {vs : List Value}
  (hr : s.run P w = .ok (.value v) (w.alloc (.cells cur t))) (hf : ∀ e ∈ r.es, e.fits r.sh = true) (hrep : RepHs w I ρ r.flat vs) (hp : cur.toList.take vs.length = vs)
  (hv : ∀ w' I' ρ', ρ' id0 = some (.blk w.heap.size cur.size r.sh) → RepH w' I' ρ' h v) (hty : Mode.y = false → ap7 w0.P t = false)
  (hB : ∀ T e bs, r = .b T e bs → Go.Lib.IsBuilderF T e w0.w.heap.size w.heap.size (Go.Lib.byteCells bs) (w.alloc (.cells cur t)) ∧ (ap7 w0.P e = true ∧ Mode.y = false) ∧ (∀ k T' e' bs', row k ≠ some (.b T' e' bs')) := by intro T e bs h; cases h) (hT : Tails (w.alloc (.cells cur t)) I w.heap.size r.tk r.sh r.pes vs := by exact Tails.nil _ _ _ _ _ _) (hM : r.asM = none := by first | rfl | assumption | exact aZ1 _ _ | exact aK8 _ _ | exact aZ2 _ _ _) : Done P w0 I0 row w I ρ id0 s h [(id0, some r)] := by
 obtain ⟨h1, h2⟩ := hm.alloc (hfree id0 (Nat.le_refl _) (by omega)) (t := t) hf hrep hp hty hT hB
 refine ⟨_, v, _, I, _, hr, .inl rfl, h1, hv _ _ _ (by simp [put]), ⟨h2.agree, h2.mono, h2.rho, fun k hk hn => h2.dom k hk fun e => hn ?_⟩⟩
 subst e; omega
variable (hget : ∀ (x : Operand) (vx : VA) (h : HV), opdOf x = some vx → vx.get get = some h → RepH w I ρ h (ev x))
include hget
theorem bI7 {x : Operand} {vx : VA} {h : HV} (hm : Mem w0 I0 row w I ρ) (hx : opdOf x = some vx) (hh : vx.get get = some h) :
 Done P w0 I0 row w I ρ id0 (pure (.value (ev x))) h [] := Done.quiet hm rfl (hget x vx h hx hh)
theorem a96 {x : Operand} {vx : VA} {b : Bool} (hx : opdOf x = some vx) (hh : vx.get get = some (.pv (.bool b))) : ev x = .bool b :=
 (hget x vx _ hx hh).bool_inv
theorem ao2 {x : Operand} {vx : VA} {k : IntKind} {n : Int} (hx : opdOf x = some vx) (hh : vx.get get = some (.pv (.int k n))) : ev x = .int k n :=
 (hget x vx _ hx hh).int_inv
theorem a39 {x : Operand} {vx : VA} {s : List UInt8} (hx : opdOf x = some vx) (hh : vx.get get = some (.pv (.str s))) : ev x = .string ⟨s.toArray⟩ :=
 (hget x vx _ hx hh).str_inv
theorem run_binV {op : BinOp} {x y : Operand} {vx vy : VA} {a b q : PV} {t : TypeId} (hx : opdOf x = some vx) (hy : opdOf y = some vy) (ha : vx.get get = some (.pv a)) (hb : vy.get get = some (.pv b))
  (hq : bt8 op a b = some q) : ∃ v, (do eqGuard op t x y (ev x) (ev y); binOp op t (ev x) (ev y) : Sem Value).run P w = .ok v w ∧ RepP w I q v [] := by
 unfold bt8 at hq
 split at hq
 ·rename_i k a k' b
  rw [ao2 hget hx ha, ao2 hget hy hb]
  split at hq
  ·simp only [bW5] at hq
   split at hq
   ·cases hq
   ·rename_i hn
    simp only [oI] at hq
    subst hq
    refine ⟨_, ?_, .int _ _⟩
    simp [eqGuard, binOp, Op.shift, hn]
  ·simp only [bW5] at hq
   split at hq
   ·cases hq
   ·rename_i hn
    simp only [oI] at hq
    subst hq
    refine ⟨_, ?_, .int _ _⟩
    simp [eqGuard, binOp, Op.shift, hn]
  ·rename_i h1 h2
   split at hq
   ·rename_i hk
    subst hk
    cases op <;> simp only [bI2] at hq <;> try (cases hq; done)
    all_goals try (simp only [oI] at hq; subst hq)
    case quo | rem =>
     split at hq
     ·cases hq
     ·rename_i hne
      simp only [oI] at hq; subst hq
      refine ⟨_, ?_, .int _ _⟩
      simp [eqGuard, binOp, Op.intDiv, hne]
    all_goals first
     | exact absurd rfl h1
     | exact absurd rfl h2
     | (refine ⟨_, ?_, .int _ _⟩; simp [eqGuard, binOp, Op.intArith, Op.intBits]; done)
     | (refine ⟨_, ?_, .bool _⟩; simp [eqGuard, binOp, Op.intCmp]; done)
     | (refine ⟨_, ?_, .bool _⟩; simp [eqGuard, binOp, Op.intCmp]; rw [Bool.eq_iff_iff]; simp; done)
   ·cases hq
 ·rename_i a b
  rw [a39 hget hx ha, a39 hget hy hb]
  have hsz : ∀ l : List UInt8, (ByteArray.mk l.toArray).size = l.length := fun l => by simp [ByteArray.size]
  cases op <;> simp only [bW6] at hq <;> try (cases hq; done)
  all_goals try (simp only [oI] at hq; subst hq)
  case add =>
   split at hq
   ·rename_i hle
    simp only [oI] at hq; subst hq
    have hv : (ByteArray.mk a.toArray ++ ByteArray.mk b.toArray) = ByteArray.mk (a ++ b).toArray := by
     apply ByteArray.ext; simp
    refine ⟨.string ⟨(a ++ b).toArray⟩, ?_, .str _⟩
    have hn : ¬ (((ByteArray.mk a.toArray).size + (ByteArray.mk b.toArray).size : Nat) : Int) > i64.max := by
     rw [hsz, hsz]; simp [IntKind.max, signed, IntKind.bits]; omega
    simp only [eqGuard, binOp, Op.stringOp]
    rw [iN hn, hv]
    simp
   ·cases hq
  all_goals (refine ⟨_, ?_, .bool _⟩; simp [eqGuard, binOp, Op.stringOp, blt, ByteArray.toList_mk])
  all_goals (try (rw [Bool.eq_iff_iff]; simp))
 ·cases hq
end
end Go.Vm
