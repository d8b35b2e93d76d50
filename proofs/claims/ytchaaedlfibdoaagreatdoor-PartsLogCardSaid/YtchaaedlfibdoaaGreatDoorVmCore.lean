import Derived.Laws.OwnMore
import Derived.Laws.CopyOwn
import Derived.Laws.StructEq
import Derived.Laws.Strings2
import Derived.Laws.Slices
import Derived.Below
import Derived.Orders
import Derived.KernelRfl
import Derived.Lib.OthersKept
open BitVec (ofInt)
open List (replicate)
namespace Go.Vm
theorem oB.{u, v} {α : Type u} {β : Type v} (a : α) (f : α → Option β) : (some a).bind f = f a := rfl
theorem oI.{u} {α : Type u} (a b : α) : (some a = some b) = (a = b) := Option.some.injEq a b
theorem oE.{u, v} {α : Type u} {b : α} {β : Type v} {x : Option β} {f : β → Option α} : x.bind f = some b ↔ ∃ a, x = some a ∧ f a = some b := Option.bind_eq_some_iff
theorem oM.{u, v} {α : Type u} {b : α} {β : Type v} {x : Option β} {f : β → α} : x.map f = some b ↔ ∃ a, x = some a ∧ f a = b := Option.map_eq_some_iff
theorem pJ.{u, v} {α : Type u} {β : Type v} (a : α) (b : β) (c : α) (d : β) : ((a, b) = (c, d)) = (a = c ∧ b = d) := Prod.mk.injEq a b c d
theorem dT {p : Prop} [Decidable p] : (decide p = true) = p := decide_eq_true_eq
theorem iN.{u} {c : Prop} {h : Decidable c} (hnc : ¬c) {α : Sort u} {t e : α} : ite c t e = e := if_neg hnc
theorem iP.{u} {c : Prop} {h : Decidable c} (hc : c) {α : Sort u} {t e : α} : ite c t e = t := if_pos hc
theorem rB {α β : Type} (P : Program) (w : World) (x : Sem α) (f : α → Sem β) : (x >>= f).run P w = (x.run P w).andThen fun a w' => (f a).run P w' := Sem.run_bind P w x f
theorem gE.{u} {α : Type u} {l : List α} {i : Nat} (h : i < l.length) : l[i]? = some l[i] := List.getElem?_eq_getElem h
theorem gS.{u} {α : Type u} {i : Nat} {a : α} {l : List α} : l[i]? = some a ↔ ∃ h : i < l.length, l[i] = a := List.getElem?_eq_some_iff
theorem aO {α β : Type} (a : α) (w : World) (f : α → World → Result β) : (Result.ok a w).andThen f = f a w := Result.andThen_ok a w f
theorem fT : false ≠ true := Bool.false_ne_true
theorem gA.{u} {α : Type u} {i : Nat} {b : α} {xs : Array α} : xs[i]? = some b ↔ ∃ h : i < xs.size, xs[i] = b := Array.getElem?_eq_some_iff
theorem bA (a b : Bool) : ((a && b) = true) = (a = true ∧ b = true) := Bool.and_eq_true a b
class Mode where
 y : Bool
 g : Option Nat := none
instance (priority := low) Mode.no : Mode := ⟨false, none⟩
abbrev Shape := Option Nat
def Shape.size : Shape → Nat
 | none => 1
 | some n => n
inductive PV where
 | bool (b : Bool)
 | int (k : IntKind) (n : Int)
 | str (s : List UInt8)
 | agg (cs : List PV)
 | tup (vs : List PV)
 | nilsl
 | esl (sh : Shape)
 | sl (sh : Shape) (es : List PV)
 | usl (sh : Shape) (es : List PV)
 | dsl (sh : Shape) (es : List PV) (cs : List Nat)
 | rptr (sh : Shape) (e : PV) (off : Nat)
 | nilptr
 | fn (f : FuncId) (caps : List PV)
 | bfn (f : FuncId) (first : List PV)
 | nilfn
 | niliface
 deriving Inhabited
def PV.cells : PV → List PV
 | .agg cs => cs
 | p => [p]
def PV.one : PV → Bool
 | .agg _ => false
 | .tup _ => false
 | _ => true
def PV.fits (sh : Shape) (p : PV) : Bool :=
 match sh, p with
 | none, p => p.one
 | some n, .agg cs => cs.length == n && cs.all PV.one
 | some _, _ => false
inductive HV where
 | undef
 | pv (p : PV)
 | agg (cs : List HV)
 | tup (vs : List HV)
 | osl (id off len : Nat)
 | optr (id idx off : Nat)
 | fn (f : FuncId) (caps : List HV)
 | any
 | omap (id : Nat)
 deriving Inhabited
def HV.cells : HV → List HV
 | .agg cs => cs
 | .pv (.agg cs) => cs.map .pv
 | h => [h]
def HV.one : HV → Bool
 | .undef => false
 | .any => false
 | .agg _ => false
 | .tup _ => false
 | .pv p => p.one
 | _ => true
def HV.fits (sh : Shape) (h : HV) : Bool :=
 match sh, h with
 | none, h => h.one
 | some n, .agg cs => cs.length == n && cs.all HV.one
 | some n, .pv p => p.fits (some n)
 | some _, _ => false
def HV.toPv? : HV → Option PV
 | .pv p => some p
 | _ => none
def mkAgg (cs : List HV) : HV :=
 match cs.mapM HV.toPv? with
 | some ps => .pv (.agg ps)
 | none => .agg cs
inductive Row where
 | p (sh : Shape) (es : List PV) (tk : List (Nat × Option Nat) := [])
 | h (sh : Shape) (es : List HV)
 | room (sh : Shape) (es : List PV)
 | b (T e : TypeId) (s : List UInt8)
 | m (es : List (PV × PV × Nat)) (ck : Nat)
 deriving Inhabited
def Row.sh : Row → Shape
 | .p sh _ _ => sh
 | .h sh _ => sh
 | .room sh _ => sh
 | .b _ _ _ => some 2
 | .m _ _ => none
def Row.es : Row → List HV
 | .p _ es _ => es.map .pv
 | .h _ es => es
 | .room _ es => es.map .pv
 | .b _ _ _ => []
 | .m _ _ => []
def Row.tk : Row → List (Nat × Option Nat)
 | .p _ _ tk => tk
 | _ => []
def Row.pes : Row → List PV
 | .p _ es _ => es
 | _ => []
def Row.asM : Row → Option (List (PV × PV × Nat) × Nat)
 | .m es ck => some (es, ck)
 | _ => none
def Row.noM : Row → Bool
 | .m _ _ => false
 | _ => true
def Row.prot : Row → Nat
 | .room sh es => es.length * sh.size
 | _ => 0
inductive VA where
 | t (s : Nat)
 | c (p : PV)
 deriving Inhabited
inductive VOp where
 | mov (x : VA)
 | pick (c a b : VA)
 | alloc (sh : Shape) (z : PV)
 | allocB (T e : TypeId)
 | box (sh : Shape) (x : VA)
 | build (zero : List PV) (parts : List (Nat × Nat × VA))
 | buildSlice (sh : Shape) (zero : PV) (len : Nat) (parts : List (Nat × VA))
 | load (sh : Shape) (x : VA)
 | store (sh : Shape) (x v : VA)
 | bin (op : BinOp) (x y : VA)
 | beq (neg : Bool) (x y : VA)
 | isNil (neg : Bool) (x : VA)
 | aeq (neg : Bool) (ks : List Nat) (x y : VA)
 | not (x : VA)
 | neg (x : VA)
 | conv (k : IntKind) (x : VA)
 | same (x : VA)
 | mkfn (f : FuncId) (caps : List VA)
 | slStr (x : VA) (lo hi : Option VA)
 | slSl (sh : Shape) (x : VA) (lo hi : Option VA)
 | slSl3 (x lo hi mx : VA)
 | fieldAddr (off : Nat) (x : VA)
 | field (sh : Shape) (off : Nat) (x : VA)
 | indexAddr (sh : Shape) (x i : VA)
 | indexArr (size len : Nat) (x i : VA)
 | indexStr (x i : VA)
 | indexAgg (sh : Shape) (len : Nat) (x i : VA)
 | extract (x : VA) (i : Nat)
 | lenStr (x : VA)
 | lenSl (x : VA)
 | capNil (x : VA)
 | minmax (isMax : Bool) (xs : List VA)
 | append (sh : Shape) (bytes : Nat) (x y : VA)
 | nilCheck (x : VA)
 | clear (sh : Shape) (x : VA)
 | makeSlice (sh : Shape) (bytes : Nat) (z : PV) (n c : VA)
 | appZ (sh : Shape) (bytes : Nat) (z : PV) (x n : VA)
 | call (f : FuncId) (args : List VA)
 | callv (x : VA) (args : List VA)
 | bstr (x : VA)
 | copyS (x y : VA)
 | compl (x : VA)
 | mkbf (f : FuncId) (first : List VA)
 | mkMap
 | mapGet (kk : Option (List Nat)) (x k : VA)
 | mapSet (kk : Option (List Nat)) (x k v : VA)
 | mapEnt (kk : Option (List Nat)) (x k : VA)
 | mapPut (x s v : VA)
 | bad
 deriving Inhabited
structure VOper where
 dst : Option Nat
 op : VOp
 guard : Option (Nat × Bool) := none
 bef : List Nat := []
 tol : List Nat := []
 deriving Inhabited
def VOper.bs (o : VOper) : List Nat := o.bef ++ o.tol
inductive aW8 where
 | skip
 | region (draw : Bool) (ops : List VOper)
 | seq (a b : aW8)
 | cond (x : VA) (a b : aW8)
 | block (id : Nat) (c : aW8)
 | loop (ks : List Nat) (c : aW8)
 | exit (id : Nat)
 | ret
 | keep (ks : List Nat) (c : aW8)
 | own (s : Nat) (sh : Shape) (c : aW8)
 | weak (c : aW8)
 | post (ks : List Nat) (c : aW8)
 | bad
 deriving Inhabited
inductive VExit where
 | normal
 | exit (id : Nat)
 | ret
structure VSt where
 tm : List (Nat × HV)
 hp : List (Nat × Option Row)
 nx : Nat
def look {α : Type} : List (Nat × α) → Nat → Option α
 | [], _ => none
 | (k, v) :: r, s => if k = s then some v else look r s
def ae3 (hp : List (Nat × Option Row)) (id : Nat) : Option Row := (look hp id).bind fun x => x
def bi5 (tm : List (Nat × HV)) : Option Nat → HV → List (Nat × HV)
 | none, _ => tm
 | some d, h => (d, h) :: tm
def VA.get (get : Nat → Option HV) : VA → Option HV
 | .t s => get s
 | .c p => some (.pv p)
def blt : List UInt8 → List UInt8 → Bool := Op.bytesLess
def bI2 (op : BinOp) (k : IntKind) (a b : Int) : Option PV :=
 match op with
 | .add => some (.int k (k.wrap (a + b)))
 | .sub => some (.int k (k.wrap (a - b)))
 | .mul => some (.int k (k.wrap (a * b)))
 | .quo => if b = 0 then none else some (.int k (k.wrap (a.tdiv b)))
 | .rem => if b = 0 then none else some (.int k (a.tmod b))
 | .and => some (.int k (k.wrap (ofInt k.bits a &&& ofInt k.bits b).toNat))
 | .or => some (.int k (k.wrap (ofInt k.bits a ||| ofInt k.bits b).toNat))
 | .xor => some (.int k (k.wrap (ofInt k.bits a ^^^ ofInt k.bits b).toNat))
 | .andNot => some (.int k (k.wrap (ofInt k.bits a &&& ~~~ (ofInt k.bits b)).toNat))
 | .eql => some (.bool (decide (a = b)))
 | .neq => some (.bool (!decide (a = b)))
 | .lss => some (.bool (decide (a < b)))
 | .leq => some (.bool (decide (a ≤ b)))
 | .gtr => some (.bool (decide (b < a)))
 | .geq => some (.bool (decide (b ≤ a)))
 | _ => none
def bW5 (op : BinOp) (k : IntKind) (a b : Int) : Option PV :=
 if b < 0 then none else
 match op with
 | .shl => some (.int k (k.wrap (a * 2 ^ (min b.toNat k.bits))))
 | .shr => some (.int k (a.fdiv (2 ^ (min b.toNat k.bits))))
 | _ => none
def bW6 (op : BinOp) (a b : List UInt8) : Option PV :=
 match op with
 | .add => if a.length + b.length ≤ 9223372036854775807 then some (.str (a ++ b)) else none
 | .eql => some (.bool (decide (a = b)))
 | .neq => some (.bool (!decide (a = b)))
 | .lss => some (.bool (blt a b))
 | .leq => some (.bool (blt a b || decide (a = b)))
 | .gtr => some (.bool (!(blt a b || decide (a = b))))
 | .geq => some (.bool (!blt a b))
 | _ => none
def bt8 (op : BinOp) (x y : PV) : Option PV :=
 match x, y with
 | .int k a, .int k' b =>
  match op with
  | .shl | .shr => bW5 op k a b
  | _ => if k = k' then bI2 op k a b else none
 | .str a, .str b => bW6 op a b
 | _, _ => none
def az4 : Nat → PV → PV → Option Bool
 | 1, .int k a, .int k' b => if k = k' then some (decide (a = b)) else none
 | 2, .str a, .str b => some (decide (a = b))
 | 0, .bool a, .bool b => some (decide (a = b))
 | _, _, _ => none
def ad6 : List Nat → List PV → List PV → Option Bool
 | [], [], [] => some true
 | k :: ks, a :: r, b :: s => (az4 k a b).bind fun x => (ad6 ks r s).map fun y => x && y
 | _, _, _ => none
def aQ2 : Option (List Nat) → PV → PV → Option Bool
 | none, .int k a, .int k' b => if k = k' then some (decide (a = b)) else none
 | some [], .str a, .str b => some (decide (a = b))
 | some (k :: ks), .agg a, .agg b => ad6 (k :: ks) a b
 | _, _, _ => none
abbrev aQ3 := List (PV × PV × Nat)
def aW9 (kk : Option (List Nat)) (k : PV) : aQ3 → Option (Option (Nat × PV × Nat))
 | [] => some none
 | (x, v, b) :: r => match aQ2 kk k x with
  | some true => some (some (0, v, b))
  | some false => (aW9 kk k r).map fun f => f.map fun q => (q.1 + 1, q.2)
  | none => none
def ci2 (es : aQ3) (i : Nat) (v : PV) : aQ3 := es.modify i fun q => (q.1, v, q.2.2)
def cm9 : PV → Bool
 | .int .i64 _ => true
 | .int _ _ => false
 | _ => true
def bt5 : Option (List Nat) → PV → Bool
 | none, .int .i64 _ => true
 | some [], .str _ => true
 | some (k :: ks), .agg a => (ad6 (k :: ks) a a).isSome && a.all cm9
 | _, _ => false
def bi7 (kk : Option (List Nat)) (k : PV) (es : aQ3) : Option PV :=
 if bt5 kk k = true then (aW9 kk k es).map fun f => match f with | some q => q.2.1 | none => .int .i64 0 else none
def bW7 (kk : Option (List Nat)) (k v : PV) (es : aQ3) (ck : Nat) : Option (aQ3 × Nat) :=
 if bt5 kk k = true then (aW9 kk k es).map fun f => match f with | some q => (ci2 es q.1 v, ck) | none => (es ++ [(k, v, ck)], ck + 1) else none
def bB4 (kk : Option (List Nat)) (k : PV) (es : aQ3) (ck : Nat) : Option (PV × Nat × aQ3 × Nat) :=
 if bt5 kk k = true then (aW9 kk k es).map fun f => match f with | some q => (q.2.1, q.2.2, es, ck) | none => (.int .i64 0, ck, es ++ [(k, .int .i64 0, ck)], ck + 1) else none
def bW8 (es : aQ3) (b : Int) (v : PV) : Option aQ3 := (es.findIdx? fun q => (q.2.2 : Int) == b).map fun i => ci2 es i v
def splice {α : Type} (cs : List α) (off : Nat) (xs : List α) : List α := cs.take off ++ xs ++ cs.drop (off + xs.length)
def ba9 (sh : Shape) (cs : List PV) (off : Nat) : Option PV :=
 match sh with
 | none => match cs[off]? with
  | some p => if p.one then some p else none
  | none => none
 | some n => if off + n ≤ cs.length then some (.agg ((cs.drop off).take n)) else none
def bt9 (sh : Shape) (cs : List HV) (off : Nat) : Option HV :=
 match sh with
 | none => match cs[off]? with
  | some h => if h.one then some h else none
  | none => none
 | some n => if off + n ≤ cs.length then some (mkAgg ((cs.drop off).take n)) else none
def bo9 (sh : Shape) (esh : Shape) (e : PV) (off : Nat) : Option PV :=
 if off = 0 ∧ sh = esh then some e else ba9 sh e.cells off
def bW9 (sh : Shape) (esh : Shape) (e : HV) (off : Nat) : Option HV :=
 if off = 0 ∧ sh = esh then some e else bt9 sh e.cells off
def bB5 : List (Nat × Nat × HV) → List HV → Option (List HV)
 | [], cs => some cs
 | (off, size, h) :: r, cs => if h.cells.length = size ∧ off + size ≤ cs.length then bB5 r (splice cs off h.cells) else none
def cn0 : PV → Option UInt8
 | .int .u8 n => some (UInt8.ofNat n.toNat)
 | _ => none
def aV5 (es : List PV) : Option (List UInt8) := es.mapM cn0
def cpS (s : List UInt8) (len : Nat) (es : List PV) : List PV := (s.take (Nat.min s.length len)).map (fun b => PV.int .u8 b.toNat) ++ es.drop (Nat.min s.length len)
def notI (k : IntKind) (a : Int) : Int := k.wrap (ofInt k.bits (if k.signed = true then -1 else k.max) ^^^ ofInt k.bits a).toNat
def aJ6 (get : Nat → Option HV) (d : Nat) : Option VA → Option Nat
 | none => some d
 | some x => match x.get get with
  | some (.pv (.int _ n)) => if 0 ≤ n then some n.toNat else none
  | _ => none
def ci3 : PV → Option (List PV)
 | .nilsl => some []
 | .esl _ => some []
 | .sl _ es => some es
 | .usl _ es => if es.isEmpty = true then some [] else none
 | _ => none
def aK6 (row : Nat → Option Row) : HV → Option (Sum (List PV) (List HV))
 | .pv p => (ci3 p).map .inl
 | .osl id off len => match row id with
  | some (.p _ es _) => if off + len ≤ es.length then some (.inl ((es.drop off).take len)) else none
  | some (.h _ es) => if off + len ≤ es.length then some (.inr ((es.drop off).take len)) else none
  | _ => none
 | _ => none
def am3 (sh : Shape) (row : Nat → Option Row) : HV → Bool
 | .pv .nilsl => true
 | .pv (.esl sh') => decide (sh' = sh)
 | .pv (.sl sh' _) => decide (sh' = sh)
 | .pv (.usl sh' _) => decide (sh' = sh)
 | .osl id _ _ => match row id with
  | some r => decide (r.sh = sh) && r.noM
  | none => false
 | _ => false
def bB6 (sh : Shape) (row : Nat → Option Row) : HV → Option (Option Nat × Sum (List PV) (List HV))
 | .pv .nilsl => some (none, .inl [])
 | .pv (.usl _ []) => some (none, .inl [])
 | .osl id 0 len => match row id with
  | some (.p sh' es _) => if sh' = sh ∧ len ≤ es.length then some (some id, .inl (es.take len)) else none
  | some (.h sh' es) => if sh' = sh ∧ len ≤ es.length then some (some id, .inr (es.take len)) else none
  | _ => none
 | _ => none
def bi8 (sh : Shape) (row : Nat → Option Row) : HV → Option (Nat × List PV)
 | .osl id 0 len => match row id with
  | some (.room sh' es) => if sh' = sh ∧ len = es.length then some (id, es) else none
  | _ => none
 | _ => none
def aJ7 (sh : Shape) : Sum (List PV) (List HV) → Sum (List PV) (List HV) → Row
 | .inl a, .inl b => .p sh (a ++ b)
 | .inl a, .inr b => .h sh (a.map .pv ++ b)
 | .inr a, .inl b => .h sh (a ++ b.map .pv)
 | .inr a, .inr b => .h sh (a ++ b)
def ad4 : Sum (List PV) (List HV) → Nat
 | .inl a => a.length
 | .inr a => a.length
def bu0 (sh : Shape) : HV → Row
 | .pv p => .p sh [p]
 | h => .h sh [h]
def ax1 (es : List HV) (sh : Shape) : Row :=
 match es.mapM HV.toPv? with
 | some ps => .p sh ps
 | none => .h sh es
abbrev Upd := List (Nat × Option Row)
def a38 : Nat → List PV → List (Nat × Option Nat)
 | _, [] => []
 | k, .usl _ [] :: r => (k, none) :: a38 (k + 1) r
 | k, _ :: r => a38 (k + 1) r
def aM7 (z : PV) : List (Nat × Option Nat) := a38 0 z.cells
def bu1 : PV → PV
 | .usl sh [] => .sl sh []
 | p => p
def aV2 : PV → PV
 | .agg cs => .agg (cs.map bu1)
 | p => bu1 p
def bI3 : HV → HV
 | .pv p => .pv (aV2 p)
 | h => h
def bb0 (kk : Option (List Nat)) (r : Option Row) (k : Option HV) : Option (HV × Upd) := match r, k with
 | some (.m es _), some (.pv kp) => (bi7 kk kp es).map fun v => (.pv v, [])
 | _, _ => none
def bB7 (kk : Option (List Nat)) (id : Nat) (r : Option Row) (k v : Option HV) : Option (HV × Upd) := match r, k, v with
 | some (.m es ck), some (.pv kp), some (.pv (.int .i64 n)) => (bW7 kk kp (.int .i64 n) es ck).map fun q => (.undef, [(id, some (.m q.1 q.2))])
 | _, _, _ => none
def bb1 (kk : Option (List Nat)) (id : Nat) (r : Option Row) (k : Option HV) : Option (HV × Upd) := match r, k with
 | some (.m es ck), some (.pv kp) => (bB4 kk kp es ck).map fun q => (.tup [.pv q.1, .pv (.int .i64 q.2.1)], [(id, some (.m q.2.2.1 q.2.2.2))])
 | _, _ => none
def bB8 (id : Nat) (r : Option Row) (s v : Option HV) : Option (HV × Upd) := match r, s, v with
 | some (.m es ck), some (.pv (.int .i64 b)), some (.pv (.int .i64 n)) => (bW8 es b (.int .i64 n)).map fun e => (.undef, [(id, some (.m e ck))])
 | _, _, _ => none
def b91 : Shape → List PV → PV
 | none, qs => qs.headD default
 | some _, qs => .agg qs
def aa5 (op : VOp) (id0 : Nat) (get : Nat → Option HV) (row : Nat → Option Row) : Option (HV × Upd) :=
 match op with
 | .mov x => (x.get get).map fun h => (h, [])
 | .pick c a b => match c.get get with
  | some (.pv (.bool t)) => (if t = true then a.get get else b.get get).map fun h => (h, [])
  | _ => none
 | .allocB _ _ => none
 | .alloc sh z => if z.fits sh then some (.optr id0 0 0, [(id0, some (.p sh [z]))]) else none
 | .box sh x => (x.get get).bind fun h => if h.fits sh then some (.optr id0 0 0, [(id0, some (bu0 sh h))]) else none
 | .build zero parts => (parts.mapM fun (q : Nat × Nat × VA) => (q.2.2.get get).map fun h => (q.1, q.2.1, h)).bind fun ps =>
   (bB5 ps (zero.map .pv)).map fun cs => (mkAgg cs, [])
 | .buildSlice sh zero len parts => (parts.mapM fun (q : Nat × VA) => (q.2.get get).map fun h => (q.1, h)).bind fun ps =>
   if ps.all (fun q => decide (q.1 < len) && q.2.fits sh) && zero.fits sh && decide (len * sh.size ≤ 16777216) then
    some (.osl id0 0 len, [(id0, some (ax1 ((ps.foldl (fun es q => es.set q.1 q.2) (replicate len (.pv zero))).map bI3) sh))])
   else none
 | .load sh x => match x.get get with
  | some (.pv (.rptr esh e off)) => (bo9 sh esh e off).map fun p => (.pv p, [])
  | some (.optr id idx off) => match row id with
   | some (.p esh es _) => (es[idx]?).bind fun e => (bo9 sh esh e off).map fun p => (.pv p, [])
   | some (.h esh es) => (es[idx]?).bind fun e => (bW9 sh esh e off).map fun p => (p, [])
   | _ => none
  | _ => none
 | .store sh x v => match x.get get, v.get get with
  | some (.optr id idx off), some h => if h.fits sh = false then none else
   match row id, h with
   | some (.p esh es _), .pv q => (es[idx]?).bind fun e =>
     if off = 0 ∧ sh = esh then some (.undef, [(id, some (.p esh (es.set idx q)))])
     else if off + sh.size ≤ e.cells.length ∧ e.one = false then some (.undef, [(id, some (.p esh (es.set idx (.agg (splice e.cells off q.cells)))))]) else none
   | some (.p esh [e] _), h =>
     if idx = 0 then
      if off = 0 ∧ sh = esh then some (.undef, [(id, some (.h esh [h]))])
      else if off + sh.size ≤ e.cells.length ∧ e.one = false then some (.undef, [(id, some (.h esh [.agg (splice (e.cells.map .pv) off h.cells)]))]) else none
     else none
   | some (.h esh es), h => (es[idx]?).bind fun e =>
     if off = 0 ∧ sh = esh then some (.undef, [(id, some (ax1 (es.set idx h) esh))])
     else if off + sh.size ≤ e.cells.length ∧ e.one = false then some (.undef, [(id, some (ax1 (es.set idx (mkAgg (splice e.cells off h.cells))) esh))]) else none
   | _, _ => none
  | _, _ => none
 | .bin op x y => match x.get get, y.get get with
  | some (.pv a), some (.pv b) => (bt8 op a b).map fun p => (.pv p, [])
  | _, _ => none
 | .beq neg x y => match x.get get, y.get get with
  | some (.pv (.bool a)), some (.pv (.bool b)) => some (.pv (.bool (if neg then !decide (a = b) else decide (a = b))), [])
  | _, _ => none
 | .isNil neg x => match x.get get with
  | some (.pv .nilsl) => some (.pv (.bool (!neg)), [])
  | some (.pv (.usl _ [])) => some (.pv (.bool (!neg)), [])
  | some (.pv (.esl _)) => some (.pv (.bool neg), [])
  | some (.pv (.sl _ es)) => if es.isEmpty then none else some (.pv (.bool neg), [])
  | _ => none
 | .aeq neg ks x y => match x.get get, y.get get with
  | some (.pv (.agg a)), some (.pv (.agg b)) => (ad6 ks a b).map fun t => (.pv (.bool (if neg then !t else t)), [])
  | _, _ => none
 | .not x => match x.get get with
  | some (.pv (.bool a)) => some (.pv (.bool (!a)), [])
  | _ => none
 | .neg x => match x.get get with
  | some (.pv (.int k a)) => some (.pv (.int k (k.wrap (0 - a))), [])
  | _ => none
 | .conv k x => match x.get get with
  | some (.pv (.int _ a)) => some (.pv (.int k (k.wrap a)), [])
  | _ => none
 | .same x => match x.get get with
  | some (.pv (.str s)) => some (.pv (.str s), [])
  | _ => none
 | .mkfn f caps => (caps.mapM (VA.get get)).map fun hs => (match hs.mapM HV.toPv? with | some ps => .pv (.fn f ps) | none => .fn f hs, [])
 | .mkbf f first => (first.mapM (VA.get get)).bind fun hs => (hs.mapM HV.toPv?).map fun ps => (.pv (.bfn f ps), [])
 | .slStr x lo hi => match x.get get with
  | some (.pv (.str s)) => (aJ6 get 0 lo).bind fun l => (aJ6 get s.length hi).bind fun h =>
    if l ≤ h ∧ h ≤ s.length then some (.pv (.str ((s.take h).drop l)), []) else none
  | _ => none
 | .slSl esh x lo hi => match x.get get with
  | some (.pv .nilsl) => (aJ6 get 0 lo).bind fun l => (aJ6 get 0 hi).bind fun h => if l = 0 ∧ h = 0 then some (.pv .nilsl, []) else none
  | some (.pv (.usl _ [])) => (aJ6 get 0 lo).bind fun l => (aJ6 get 0 hi).bind fun h => if l = 0 ∧ h = 0 then some (.pv .nilsl, []) else none
  | some (.pv (.sl sh es)) => (aJ6 get 0 lo).bind fun l => (aJ6 get es.length hi).bind fun h =>
    if sh = esh ∧ l ≤ h ∧ h ≤ es.length then some (.pv (.sl sh ((es.take h).drop l)), []) else none
  | some (.osl id off len) => (aJ6 get 0 lo).bind fun l => (aJ6 get len hi).bind fun h =>
    if am3 esh row (.osl id off len) = true ∧ l ≤ h ∧ h ≤ len then some (.osl id (off + l) (h - l), []) else none
  | _ => none
 | .slSl3 x lo hi mx => match x.get get with
  | some (.pv .nilsl) => (aJ6 get 0 (some lo)).bind fun l => (aJ6 get 0 (some hi)).bind fun h => (aJ6 get 0 (some mx)).bind fun m => if l ≤ h ∧ h ≤ m ∧ m = 0 then some (.any, []) else none
  | some (.pv (.sl _ es)) => (aJ6 get 0 (some lo)).bind fun l => (aJ6 get 0 (some hi)).bind fun h => (aJ6 get 0 (some mx)).bind fun m => if l ≤ h ∧ h ≤ m ∧ m ≤ es.length then some (.any, []) else none
  | some (.osl _ _ len) => (aJ6 get 0 (some lo)).bind fun l => (aJ6 get 0 (some hi)).bind fun h => (aJ6 get 0 (some mx)).bind fun m => if l ≤ h ∧ h ≤ m ∧ m ≤ len then some (.any, []) else none
  | _ => none
 | .fieldAddr off x => match x.get get with
  | some (.pv (.rptr sh e o)) => some (.pv (.rptr sh e (o + off)), [])
  | some (.optr id idx o) => some (.optr id idx (o + off), [])
  | _ => none
 | .field sh off x => match x.get get with
  | some (.pv (.agg cs)) => (ba9 sh cs off).map fun q => (.pv q, [])
  | some (.agg cs) => (bt9 sh cs off).map fun q => (q, [])
  | _ => none
 | .indexAddr sh x i => match x.get get, i.get get with
  | some (.pv (.sl sh' es)), some (.pv (.int _ n)) => if 0 ≤ n ∧ sh' = sh then (es[n.toNat]?).map fun e => (.pv (.rptr sh e 0), []) else none
  | some (.osl id off len), some (.pv (.int _ n)) => if 0 ≤ n ∧ n.toNat < len ∧ am3 sh row (.osl id off len) then some (.optr id (off + n.toNat) 0, []) else none
  | _, _ => none
 | .indexArr size len x i => match x.get get, i.get get with
  | some (.pv (.rptr sh e o)), some (.pv (.int _ n)) => if 0 ≤ n ∧ n.toNat < len then some (.pv (.rptr sh e (o + n.toNat * size)), []) else none
  | some (.optr id idx o), some (.pv (.int _ n)) => if 0 ≤ n ∧ n.toNat < len then some (.optr id idx (o + n.toNat * size), []) else none
  | _, _ => none
 | .indexStr x i => match x.get get, i.get get with
  | some (.pv (.str s)), some (.pv (.int _ n)) => if 0 ≤ n then (s[n.toNat]?).map fun b => (.pv (.int .u8 b.toNat), []) else none
  | _, _ => none
 | .indexAgg sh len x i => match x.get get, i.get get with
  | some (.pv (.agg cs)), some (.pv (.int _ n)) => if 0 ≤ n ∧ n.toNat < len then (ba9 sh cs (n.toNat * sh.size)).map fun q => (.pv q, []) else none
  | _, _ => none
 | .extract x i => match x.get get with
  | some (.tup vs) => (vs[i]?).map fun h => (h, [])
  | some (.pv (.tup vs)) => (vs[i]?).map fun h => (.pv h, [])
  | _ => none
 | .lenStr x => match x.get get with
  | some (.pv (.str s)) => some (.pv (.int .i64 s.length), [])
  | _ => none
 | .lenSl x => match x.get get with
  | some (.pv .nilsl) => some (.pv (.int .i64 0), [])
  | some (.pv (.usl _ [])) => some (.pv (.int .i64 0), [])
  | some (.pv (.esl _)) => some (.pv (.int .i64 0), [])
  | some (.pv (.sl _ es)) => some (.pv (.int .i64 es.length), [])
  | some (.osl _ _ len) => some (.pv (.int .i64 len), [])
  | _ => none
 | .capNil x => match x.get get with
  | some (.pv .nilsl) => some (.pv (.int .i64 0), [])
  | _ => none
 | .minmax isMax xs => match xs.mapM (VA.get get) with
  | some [.pv (.int k a), .pv (.int k' b)] => if k = k' then some (.pv (.int k (if isMax then max a b else min a b)), []) else none
  | some [.pv (.int k a), .pv (.int k' b), .pv (.int k'' c)] => if k = k' ∧ k = k'' ∧ isMax = true then some (.pv (.int k (max (max a b) c)), []) else none
  | _ => none
 | .append sh bytes x y => match x.get get, y.get get with
  | some a, some b => match bi8 sh row a with
   | some (id, es) => (aK6 row b).bind fun e => match e with
    | .inl ys => if am3 sh row b = true ∧ 0 < sh.size ∧ (es.length + ys.length) * bytes ≤ 140737488355328 ∧ es.length + ys.length ≤ 9223372036854775807 then
      some (.pv (.sl sh (es ++ ys)), [(id, none)])
     else none
    | .inr _ => none
   | none => (bB6 sh row a).bind fun s => (aK6 row b).bind fun e =>
    if am3 sh row b = true ∧ 0 < sh.size ∧ (ad4 s.2 + ad4 e) * bytes ≤ 140737488355328 ∧ ad4 s.2 + ad4 e ≤ 9223372036854775807 then
     some (.osl id0 0 (ad4 s.2 + ad4 e), (id0, some (aJ7 sh s.2 e)) :: (match s.1 with | some id => [(id, none)] | none => []))
    else none
  | _, _ => none
 | .nilCheck x => match x.get get with
  | some (.optr id idx off) => some (.optr id idx off, [])
  | some (.pv (.rptr sh e off)) => some (.pv (.rptr sh e off), [])
  | some (.pv (.fn f caps)) => some (.pv (.fn f caps), [])
  | some (.pv (.bfn f caps)) => some (.pv (.bfn f caps), [])
  | some (.fn f caps) => some (.fn f caps, [])
  | _ => none
 | .bstr x => match x.get get with
  | some h => (aK6 row h).bind fun e => match e with
   | .inl es => if am3 none row h = true then (aV5 es).map fun t => (.pv (.str t), []) else none
   | .inr _ => none
  | none => none
 | .copyS x y => match x.get get, y.get get with
  | some (.osl id 0 len), some (.pv (.str s)) => match row id with
   | some (.p none es _) => if len ≤ es.length then some (.pv (.int .i64 (Nat.min s.length len)), [(id, some (.p none (cpS s len es)))]) else none
   | _ => none
  | _, _ => none
 | .compl x => match x.get get with
  | some (.pv (.int k a)) => some (.pv (.int k (notI k a)), [])
  | _ => none
 | .makeSlice sh bytes z n c => match n.get get, c.get get with
  | some (.pv (.int .i64 a)), some (.pv (.int .i64 b)) =>
    if 0 ≤ a ∧ a ≤ b ∧ b * bytes ≤ 281474976710656 ∧ b ≤ 9223372036854775807 ∧ z.fits sh = true ∧ 0 < sh.size then some (.osl id0 0 a.toNat, [(id0, some (.p sh (replicate a.toNat (aV2 z)) (aM7 z)))]) else none
  | _, _ => none
 | .appZ sh bytes z x n => match x.get get, n.get get with
  | some (.pv .nilsl), some (.pv (.int .i64 a)) =>
    if 0 < a ∧ a * bytes ≤ 140737488355328 ∧ a ≤ 9223372036854775807 ∧ z.fits sh = true ∧ 0 < sh.size then some (.osl id0 0 a.toNat, [(id0, some (.p sh (replicate a.toNat (aV2 z)) (aM7 z)))]) else none
  | _, _ => none
 | .clear sh x => match x.get get with
  | some (.pv .nilsl) => some (.tup [], [])
  | some (.osl id off _) => match row id with
   | some (.p sh' es _) => if sh' = sh ∧ 0 < sh.size ∧ off ≤ es.length then some (.tup [], [(id, some (.p sh (es.take off)))]) else none
   | _ => none
  | _ => none
 | .mkMap => some (.omap id0, [(id0, some (.m [] 0))])
 | .mapGet kk x k => match x.get get with
  | some (.omap id) => bb0 kk (row id) (k.get get)
  | _ => none
 | .mapSet kk x k v => match x.get get with
  | some (.omap id) => bB7 kk id (row id) (k.get get) (v.get get)
  | _ => none
 | .mapEnt kk x k => match x.get get with
  | some (.omap id) => bb1 kk id (row id) (k.get get)
  | _ => none
 | .mapPut x s v => match x.get get with
  | some (.omap id) => bB8 id (row id) (s.get get) (v.get get)
  | _ => none
 | .call _ _ => none
 | .callv _ _ => none
 | .bad => none
def ax5 : HV → List Nat
 | .osl id _ _ => [id]
 | .optr id _ _ => [id]
 | .omap id => [id]
 | _ => []
def aj9 : Nat → HV → List Nat
 | _, .osl id _ _ => [id]
 | _, .optr id _ _ => [id]
 | _, .omap id => [id]
 | n + 1, .agg cs => cs.flatMap (aj9 n)
 | n + 1, .fn _ caps => caps.flatMap (aj9 n)
 | _, _ => []
def bX0 : VOp → VOp → Bool
 | .mapGet kk _ _, .mapEnt kk' _ _ => decide (kk = kk')
 | .mapEnt kk _ _, .mapGet kk' _ _ => decide (kk = kk')
 | _, _ => false
def reads (op : VOp) (get : Nat → Option HV) : List Nat :=
 let r (x : VA) : List Nat := ((x.get get).map ax5).getD []
 match op with
 | .load _ x => r x
 | .store _ x v => r x ++ ((v.get get).map (aj9 4)).getD []
 | .append _ _ x y => r x ++ r y
 | .indexAddr _ x _ => r x
 | .slSl _ x _ _ => r x
 | .clear _ x => r x
 | .bstr x => r x
 | .copyS x _ => r x
 | .mapGet _ x _ => r x
 | .mapSet _ x _ _ => r x
 | .mapEnt _ x _ => r x
 | .mapPut x _ _ => r x
 | _ => []
def bB9 (sh : Shape) (es : List PV) (tk : List (Nat × Option Nat)) (len : Nat) : Option PV :=
 match tk with
 | [] => some (.usl sh (es.take len))
 | _ => if len = es.length ∧ (tk.all fun q => q.2.isNone) = true then some (.dsl sh es (tk.map (·.1))) else none
def aj8 (gs : List Nat) (row : Nat → Option Row) : Nat → HV → Option PV
 | _, .pv p => some p
 | _ + 1, .osl id off len => match row id with
  | some (.p sh es tk) => if gs.contains id = true then (if off = 0 ∧ len ≤ es.length then bB9 sh es tk len else none) else if off + len ≤ es.length then some (.sl sh ((es.drop off).take len)) else none
  | _ => none
 | _ + 1, .optr id idx off => if gs.contains id = true then none else match row id with
  | some (.p sh es _) => (es[idx]?).map fun e => .rptr sh e off
  | _ => none
 | n + 1, .agg cs => (cs.mapM (aj8 gs row n)).map .agg
 | n + 1, .fn f caps => (caps.mapM (aj8 gs row n)).map (.fn f)
 | _, _ => none
def a36 (gs : List Nat) : Nat → HV → List Nat
 | _ + 1, .osl id _ _ => if gs.contains id = true then [] else [id]
 | _ + 1, .optr id _ _ => [id]
 | n + 1, .agg cs => cs.flatMap (a36 gs n)
 | n + 1, .fn _ caps => caps.flatMap (a36 gs n)
 | _, _ => []
def ai9 (gs : List Nat) : Nat → HV → List Nat
 | _ + 1, .osl id _ _ => if gs.contains id = true then [id] else []
 | n + 1, .agg cs => cs.flatMap (ai9 gs n)
 | n + 1, .fn _ caps => caps.flatMap (ai9 gs n)
 | _, _ => []
def af2 (gs : List Nat) : Upd := gs.map fun id => (id, none)
def al4 (id : Nat) : PV → HV × Upd × Nat
 | .usl sh es => (.osl id 0 es.length, [(id, some (.p sh es))], id + 1)
 | .dsl sh es cs => (.osl id 0 es.length, [(id, some (.p sh es (cs.map fun c => (c, none))))], id + 1)
 | p => (.pv p, [], id)
def ag5 (imp : Nat → PV → HV × Upd × Nat) (id : Nat) : List PV → List HV × Upd × Nat
 | [] => ([], [], id)
 | p :: r => match imp id p with
  | (h, u, id1) => match ag5 imp id1 r with
   | (hs, us, id2) => (h :: hs, u ++ us, id2)
def ax6 (id : Nat) : PV → HV × Upd × Nat
 | .agg cs => match ag5 al4 id cs with
  | (hs, u, id1) => (mkAgg hs, u, id1)
 | p => al4 id p
def ah7 (id : Nat) : PV → HV × Upd × Nat
 | .tup vs => match ag5 ax6 id vs with
  | (hs, u, id1) => (.tup hs, u, id1)
 | p => ax6 id p
def ct5 (tk : List (Nat × Option Nat)) (c idx : Nat) : Prop := ∃ m, (c, m) ∈ tk ∧ ∀ k, m = some k → idx < k
def bp0 (x : VA) (id0 : Nat) (get : Nat → Option HV) (row : Nat → Option Row) (h : HV) (upd : Upd) : Prop :=
 ∃ id idx off esh es tk e sh es', x.get get = some (.optr id idx off) ∧ row id = some (.p esh es tk) ∧ es[idx]? = some e ∧ e.cells[off]? = some (.sl sh es') ∧ ct5 tk off idx ∧ 0 < sh.size ∧
  h = .osl id0 0 es'.length ∧ upd = [(id0, some (.room sh es')), (id, some (.p esh es))]
def bb2 : HV → Bool
 | .osl _ 0 _ => true
 | _ => false
def am5 (row : Nat → Option Row) : HV → Option PV
 | .pv p => some (bu1 p)
 | .osl id 0 len => match row id with
  | some (.p sh es _) => if len = es.length ∧ 0 < sh.size then some (.sl sh es) else none
  | _ => none
 | _ => none
def b97 (sh : Shape) (x v : VA) (get : Nat → Option HV) (row : Nat → Option Row) (h : HV) (upd : Upd) : Prop :=
 ∃ id idx off esh es tk tk' e hv qs, x.get get = some (.optr id idx off) ∧ v.get get = some hv ∧ hv.fits sh = true ∧ row id = some (.p esh es tk) ∧ es[idx]? = some e ∧
  hv.cells.mapM (am5 row) = some qs ∧ (hv.cells.flatMap ax5).Nodup ∧ id ∉ hv.cells.flatMap ax5 ∧
  (off = 0 ∧ sh = esh ∨ off + sh.size ≤ e.cells.length ∧ e.one = false) ∧
  (∀ c m', (c, m') ∈ tk' → ∃ m, (c, m) ∈ tk ∧ ((c < off ∨ off + sh.size ≤ c) ∧ m' = m ∨
   off ≤ c ∧ (∃ q, hv.cells[c - off]? = some q ∧ bb2 q = true) ∧ (m' = none ∧ m = none ∨ ∃ k k', m = some k ∧ m' = some k' ∧ idx ≤ k ∧ k' ≤ idx + 1))) ∧
  h = .undef ∧ upd = (id, some (.p esh (es.set idx (if off = 0 ∧ sh = esh then b91 sh qs else .agg (splice e.cells off qs))) tk')) :: af2 (hv.cells.flatMap ax5)
def bC0 (op : VOp) (id0 : Nat) (get : Nat → Option HV) (row : Nat → Option Row) (h : HV) (upd : Upd) : Prop :=
 ∃ h0 qs, aa5 op id0 get row = some (h0, []) ∧ h0.cells.mapM (am5 row) = some qs ∧ (h0.cells.flatMap ax5).Nodup ∧ upd = af2 (h0.cells.flatMap ax5) ∧
  ((∃ cs, h0 = .agg cs ∧ h = .pv (.agg qs)) ∨ ∃ id off len, h0 = .osl id off len ∧ h = .pv (qs.headD default))
def b98 (sh : Shape) (x y : VA) (get : Nat → Option HV) (row : Nat → Option Row) (h : HV) (upd : Upd) : Prop :=
 ∃ id len es tk hb ys, x.get get = some (.osl id 0 len) ∧ row id = some (.p sh es tk) ∧ y.get get = some hb ∧ aK6 row hb = some (.inl ys) ∧ am3 sh row hb = true ∧ 0 < sh.size ∧ len + ys.length ≤ es.length ∧
  h = .osl id 0 (len + ys.length) ∧ upd = [(id, some (.p sh (es.take len ++ ys ++ es.drop (len + ys.length))))]
def bI4 (sh : Shape) (x : VA) (lo hi : Option VA) (get : Nat → Option HV) (row : Nat → Option Row) (h : HV) (upd : Upd) : Prop :=
 ∃ id len es tk l r, x.get get = some (.osl id 0 len) ∧ row id = some (.p sh es tk) ∧ aJ6 get 0 lo = some l ∧ aJ6 get len hi = some r ∧ l ≤ r ∧ r ≤ es.length ∧ 0 < sh.size ∧ h = .osl id l (r - l) ∧ upd = []
mutual
def HV.ids : HV → List Nat
 | .osl id _ _ => [id]
 | .optr id _ _ => [id]
 | .omap id => [id]
 | .agg cs => aC8 cs
 | .tup cs => aC8 cs
 | .fn _ cs => aC8 cs
 | _ => []
def aC8 : List HV → List Nat
 | [] => []
 | h :: r => h.ids ++ aC8 r
end
def Row.ids : Row → List Nat
 | .p _ _ _ => []
 | .h _ es => aC8 es
 | .room _ _ => []
 | .b _ _ _ => []
 | .m _ _ => []
mutual
def HV.ren (π : Nat → Nat) : HV → HV
 | .osl id off len => .osl (π id) off len
 | .optr id idx off => .optr (π id) idx off
 | .agg cs => .agg (aF9 π cs)
 | .tup cs => .tup (aF9 π cs)
 | .fn f cs => .fn f (aF9 π cs)
 | .pv p => .pv p
 | .omap id => .omap (π id)
 | .undef => .undef
 | .any => .any
def aF9 (π : Nat → Nat) : List HV → List HV
 | [] => []
 | h :: r => h.ren π :: aF9 π r
end
def Row.ren (π : Nat → Nat) : Row → Row
 | .p sh es tk => .p sh es tk
 | .h sh es => .h sh (aF9 π es)
 | .room sh es => .room sh es
 | .b T e s => .b T e s
 | .m es ck => .m es ck
def bu2 (hp : List (Nat × Option Row)) : Nat → List Nat → List Nat → Option (List Nat)
 | _, [], seen => some seen
 | 0, _ :: _, _ => none
 | n + 1, id :: todo, seen => if seen.contains id then bu2 hp n todo seen else
  match ae3 hp id with
  | some r => bu2 hp n (r.ids ++ todo) (seen ++ [id])
  | none => bu2 hp n todo (seen ++ [id])
def az6 : List Nat → Nat → Nat
 | [], _ => 0
 | x :: r, k => if x = k then 0 else az6 r k + 1
def a67 (tm : List (Nat × HV)) : List Nat → List (Nat × HV)
 | [] => []
 | s :: ks => match look tm s with
  | some h => (s, h) :: a67 tm ks
  | none => a67 tm ks
def bb3 (hp : List (Nat × Option Row)) (π : Nat → Nat) : Nat → List Nat → List (Nat × Option Row)
 | _, [] => []
 | i, id :: r => match ae3 hp id with
  | some x => (i, some (x.ren π)) :: bb3 hp π (i + 1) r
  | none => bb3 hp π (i + 1) r
def aP6 (ks : List Nat) (st : VSt) : VSt :=
 match bu2 st.hp 200 (aC8 ((a67 st.tm ks).map (·.2))) [] with
 | some l => { tm := (a67 st.tm ks).map fun x => (x.1, x.2.ren (az6 l)), hp := bb3 st.hp (az6 l) 0 l, nx := l.length }
 | none => st
def bN8 (s : Nat) (sh : Shape) (st : VSt) : VSt :=
 match look st.tm s with
 | some (.pv .nilsl) => { tm := (s, .osl st.nx 0 0) :: st.tm, hp := (st.nx, some (.p sh [])) :: st.hp, nx := st.nx + 1 }
 | some (.pv (.usl _ [])) => { tm := (s, .osl st.nx 0 0) :: st.tm, hp := (st.nx, some (.p sh [])) :: st.hp, nx := st.nx + 1 }
 | _ => st
def bX1 : HV → Bool
 | .pv .nilsl => true
 | .pv (.usl _ []) => true
 | _ => false
def aX0 (bsh : Shape) (e : HV) (c : Nat) (x : HV) : HV := match bsh with
 | none => x
 | some _ => .agg (e.cells.set c x)
def b99 (id c : Nat) (sh bsh : Shape) (e : HV) (st : VSt) : VSt :=
 match e.cells[c]? with
 | some hc => if bX1 hc = true then { tm := st.tm, hp := (id, some (.h bsh [aX0 bsh e c (.osl st.nx 0 0)])) :: (st.nx, some (.p sh [])) :: st.hp, nx := st.nx + 1 } else st
 | none => st
end Go.Vm
