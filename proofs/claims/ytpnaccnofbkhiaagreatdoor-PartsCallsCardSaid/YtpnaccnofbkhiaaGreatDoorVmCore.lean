import Derived.Laws.OwnMore
import Derived.Laws.CopyOwn
import Derived.Laws.StructEq
import Derived.Laws.Strings2
import Derived.Laws.Slices
import Derived.Below
import Derived.Orders
import Derived.KernelRfl
import Derived.Lib.OthersKept
namespace Go.Vm
set_option autoImplicit false
class Mode where
 y : Bool
 g : Option Nat := none
instance (priority := low) Mode.no : Mode := ⟨false, none⟩
abbrev Shape := Option Nat
def Shape.size : Shape → Nat
 | none => 1
 | some n => n
inductive PV where
 | bool (b : Bool)
 | int (k : IntKind) (n : Int)
 | str (s : List UInt8)
 | agg (cs : List PV)
 | tup (vs : List PV)
 | nilsl
 | esl (sh : Shape)
 | sl (sh : Shape) (es : List PV)
 | usl (sh : Shape) (es : List PV)
 | dsl (sh : Shape) (es : List PV) (cs : List Nat)
 | rptr (sh : Shape) (e : PV) (off : Nat)
 | nilptr
 | fn (f : FuncId) (caps : List PV)
 | bfn (f : FuncId) (first : List PV)
 | nilfn
 | niliface
 deriving Inhabited
def PV.cells : PV → List PV
 | .agg cs => cs
 | p => [p]
def PV.one : PV → Bool
 | .agg _ => false
 | .tup _ => false
 | _ => true
def PV.fits (sh : Shape) (p : PV) : Bool :=
 match sh, p with
 | none, p => p.one
 | some n, .agg cs => cs.length == n && cs.all PV.one
 | some _, _ => false
inductive HV where
 | undef
 | pv (p : PV)
 | agg (cs : List HV)
 | tup (vs : List HV)
 | osl (id off len : Nat)
 | optr (id idx off : Nat)
 | fn (f : FuncId) (caps : List HV)
 | any
 deriving Inhabited
def HV.cells : HV → List HV
 | .agg cs => cs
 | .pv (.agg cs) => cs.map .pv
 | h => [h]
def HV.one : HV → Bool
 | .undef => false
 | .any => false
 | .agg _ => false
 | .tup _ => false
 | .pv p => p.one
 | _ => true
def HV.fits (sh : Shape) (h : HV) : Bool :=
 match sh, h with
 | none, h => h.one
 | some n, .agg cs => cs.length == n && cs.all HV.one
 | some n, .pv p => p.fits (some n)
 | some _, _ => false
def HV.toPv? : HV → Option PV
 | .pv p => some p
 | _ => none
def mkAgg (cs : List HV) : HV :=
 match cs.mapM HV.toPv? with
 | some ps => .pv (.agg ps)
 | none => .agg cs
inductive Row where
 | p (sh : Shape) (es : List PV) (tk : List (Nat × Option Nat) := [])
 | h (sh : Shape) (es : List HV)
 | room (sh : Shape) (es : List PV)
 | b (T e : TypeId) (s : List UInt8)
 deriving Inhabited
def Row.sh : Row → Shape
 | .p sh _ _ => sh
 | .h sh _ => sh
 | .room sh _ => sh
 | .b _ _ _ => some 2
def Row.es : Row → List HV
 | .p _ es _ => es.map .pv
 | .h _ es => es
 | .room _ es => es.map .pv
 | .b _ _ _ => []
def Row.tk : Row → List (Nat × Option Nat)
 | .p _ _ tk => tk
 | _ => []
def Row.pes : Row → List PV
 | .p _ es _ => es
 | _ => []
def Row.prot : Row → Nat
 | .room sh es => es.length * sh.size
 | _ => 0
inductive VA where
 | t (s : Nat)
 | c (p : PV)
 deriving Inhabited
inductive VOp where
 | mov (x : VA)
 | pick (c a b : VA)
 | alloc (sh : Shape) (z : PV)
 | allocB (T e : TypeId)
 | box (sh : Shape) (x : VA)
 | build (zero : List PV) (parts : List (Nat × Nat × VA))
 | buildSlice (sh : Shape) (zero : PV) (len : Nat) (parts : List (Nat × VA))
 | load (sh : Shape) (x : VA)
 | store (sh : Shape) (x v : VA)
 | bin (op : BinOp) (x y : VA)
 | beq (neg : Bool) (x y : VA)
 | isNil (neg : Bool) (x : VA)
 | aeq (neg : Bool) (ks : List Nat) (x y : VA)
 | not (x : VA)
 | neg (x : VA)
 | conv (k : IntKind) (x : VA)
 | same (x : VA)
 | mkfn (f : FuncId) (caps : List VA)
 | slStr (x : VA) (lo hi : Option VA)
 | slSl (sh : Shape) (x : VA) (lo hi : Option VA)
 | slSl3 (x lo hi mx : VA)
 | fieldAddr (off : Nat) (x : VA)
 | field (sh : Shape) (off : Nat) (x : VA)
 | indexAddr (sh : Shape) (x i : VA)
 | indexArr (size len : Nat) (x i : VA)
 | indexStr (x i : VA)
 | indexAgg (sh : Shape) (len : Nat) (x i : VA)
 | extract (x : VA) (i : Nat)
 | lenStr (x : VA)
 | lenSl (x : VA)
 | capNil (x : VA)
 | minmax (isMax : Bool) (xs : List VA)
 | append (sh : Shape) (bytes : Nat) (x y : VA)
 | nilCheck (x : VA)
 | clear (sh : Shape) (x : VA)
 | makeSlice (sh : Shape) (bytes : Nat) (z : PV) (n c : VA)
 | appZ (sh : Shape) (bytes : Nat) (z : PV) (x n : VA)
 | call (f : FuncId) (args : List VA)
 | callv (x : VA) (args : List VA)
 | bstr (x : VA)
 | copyS (x y : VA)
 | compl (x : VA)
 | mkbf (f : FuncId) (first : List VA)
 | bad
 deriving Inhabited
structure VOper where
 dst : Option Nat
 op : VOp
 guard : Option (Nat × Bool) := none
 bef : List Nat := []
 deriving Inhabited
inductive aR5 where
 | skip
 | region (draw : Bool) (ops : List VOper)
 | seq (a b : aR5)
 | cond (x : VA) (a b : aR5)
 | block (id : Nat) (c : aR5)
 | loop (ks : List Nat) (c : aR5)
 | exit (id : Nat)
 | ret
 | keep (ks : List Nat) (c : aR5)
 | own (s : Nat) (sh : Shape) (c : aR5)
 | weak (c : aR5)
 | post (ks : List Nat) (c : aR5)
 | bad
 deriving Inhabited
inductive VExit where
 | normal
 | exit (id : Nat)
 | ret
structure VSt where
 tm : List (Nat × HV)
 hp : List (Nat × Option Row)
 nx : Nat
def look {α : Type} : List (Nat × α) → Nat → Option α
 | [], _ => none
 | (k, v) :: r, s => if k = s then some v else look r s
def ae0 (hp : List (Nat × Option Row)) (id : Nat) : Option Row := (look hp id).bind fun x => x
def a52 (tm : List (Nat × HV)) : Option Nat → HV → List (Nat × HV)
 | none, _ => tm
 | some d, h => (d, h) :: tm
def VA.get (get : Nat → Option HV) : VA → Option HV
 | .t s => get s
 | .c p => some (.pv p)
def blt : List UInt8 → List UInt8 → Bool := Op.bytesLess
def bv4 (op : BinOp) (k : IntKind) (a b : Int) : Option PV :=
 match op with
 | .add => some (.int k (k.wrap (a + b)))
 | .sub => some (.int k (k.wrap (a - b)))
 | .mul => some (.int k (k.wrap (a * b)))
 | .quo => if b = 0 then none else some (.int k (k.wrap (a.tdiv b)))
 | .rem => if b = 0 then none else some (.int k (a.tmod b))
 | .and => some (.int k (k.wrap (BitVec.ofInt k.bits a &&& BitVec.ofInt k.bits b).toNat))
 | .or => some (.int k (k.wrap (BitVec.ofInt k.bits a ||| BitVec.ofInt k.bits b).toNat))
 | .xor => some (.int k (k.wrap (BitVec.ofInt k.bits a ^^^ BitVec.ofInt k.bits b).toNat))
 | .andNot => some (.int k (k.wrap (BitVec.ofInt k.bits a &&& ~~~ (BitVec.ofInt k.bits b)).toNat))
 | .eql => some (.bool (decide (a = b)))
 | .neq => some (.bool (!decide (a = b)))
 | .lss => some (.bool (decide (a < b)))
 | .leq => some (.bool (decide (a ≤ b)))
 | .gtr => some (.bool (decide (b < a)))
 | .geq => some (.bool (decide (b ≤ a)))
 | _ => none
def bJ0 (op : BinOp) (k : IntKind) (a b : Int) : Option PV :=
 if b < 0 then none else
 match op with
 | .shl => some (.int k (k.wrap (a * 2 ^ (min b.toNat k.bits))))
 | .shr => some (.int k (a.fdiv (2 ^ (min b.toNat k.bits))))
 | _ => none
def bJ1 (op : BinOp) (a b : List UInt8) : Option PV :=
 match op with
 | .add => if a.length + b.length ≤ 9223372036854775807 then some (.str (a ++ b)) else none
 | .eql => some (.bool (decide (a = b)))
 | .neq => some (.bool (!decide (a = b)))
 | .lss => some (.bool (blt a b))
 | .leq => some (.bool (blt a b || decide (a = b)))
 | .gtr => some (.bool (!(blt a b || decide (a = b))))
 | .geq => some (.bool (!blt a b))
 | _ => none
def bg7 (op : BinOp) (x y : PV) : Option PV :=
 match x, y with
 | .int k a, .int k' b =>
  match op with
  | .shl | .shr => bJ0 op k a b
  | _ => if k = k' then bv4 op k a b else none
 | .str a, .str b => bJ1 op a b
 | _, _ => none
def bg8 : Nat → PV → PV → Option Bool
 | 1, .int k a, .int k' b => if k = k' then some (decide (a = b)) else none
 | 2, .str a, .str b => some (decide (a = b))
 | 0, .bool a, .bool b => some (decide (a = b))
 | _, _, _ => none
def ai7 : List Nat → List PV → List PV → Option Bool
 | [], [], [] => some true
 | k :: ks, a :: r, b :: s => (bg8 k a b).bind fun x => (ai7 ks r s).map fun y => x && y
 | _, _, _ => none
def splice {α : Type} (cs : List α) (off : Nat) (xs : List α) : List α := cs.take off ++ xs ++ cs.drop (off + xs.length)
def bg9 (sh : Shape) (cs : List PV) (off : Nat) : Option PV :=
 match sh with
 | none => match cs[off]? with
  | some p => if p.one then some p else none
  | none => none
 | some n => if off + n ≤ cs.length then some (.agg ((cs.drop off).take n)) else none
def bh0 (sh : Shape) (cs : List HV) (off : Nat) : Option HV :=
 match sh with
 | none => match cs[off]? with
  | some h => if h.one then some h else none
  | none => none
 | some n => if off + n ≤ cs.length then some (mkAgg ((cs.drop off).take n)) else none
def bn7 (sh : Shape) (esh : Shape) (e : PV) (off : Nat) : Option PV :=
 if off = 0 ∧ sh = esh then some e else bg9 sh e.cells off
def bJ2 (sh : Shape) (esh : Shape) (e : HV) (off : Nat) : Option HV :=
 if off = 0 ∧ sh = esh then some e else bh0 sh e.cells off
def bn8 : List (Nat × Nat × HV) → List HV → Option (List HV)
 | [], cs => some cs
 | (off, size, h) :: r, cs => if h.cells.length = size ∧ off + size ≤ cs.length then bn8 r (splice cs off h.cells) else none
def ce4 : PV → Option UInt8
 | .int .u8 n => some (UInt8.ofNat n.toNat)
 | _ => none
def bh1 (es : List PV) : Option (List UInt8) := es.mapM ce4
def cpS (s : List UInt8) (len : Nat) (es : List PV) : List PV := (s.take (Nat.min s.length len)).map (fun b => PV.int .u8 b.toNat) ++ es.drop (Nat.min s.length len)
def notI (k : IntKind) (a : Int) : Int := k.wrap (BitVec.ofInt k.bits (if k.signed = true then -1 else k.max) ^^^ BitVec.ofInt k.bits a).toNat
def aB7 (get : Nat → Option HV) (d : Nat) : Option VA → Option Nat
 | none => some d
 | some x => match x.get get with
  | some (.pv (.int _ n)) => if 0 ≤ n then some n.toNat else none
  | _ => none
def b41 : PV → Option (List PV)
 | .nilsl => some []
 | .esl _ => some []
 | .sl _ es => some es
 | .usl _ es => if es.isEmpty = true then some [] else none
 | _ => none
def aC6 (row : Nat → Option Row) : HV → Option (Sum (List PV) (List HV))
 | .pv p => (b41 p).map .inl
 | .osl id off len => match row id with
  | some (.p _ es _) => if off + len ≤ es.length then some (.inl ((es.drop off).take len)) else none
  | some (.h _ es) => if off + len ≤ es.length then some (.inr ((es.drop off).take len)) else none
  | _ => none
 | _ => none
def ai8 (sh : Shape) (row : Nat → Option Row) : HV → Bool
 | .pv .nilsl => true
 | .pv (.esl sh') => decide (sh' = sh)
 | .pv (.sl sh' _) => decide (sh' = sh)
 | .pv (.usl sh' _) => decide (sh' = sh)
 | .osl id _ _ => match row id with
  | some r => decide (r.sh = sh)
  | none => false
 | _ => false
def bn9 (sh : Shape) (row : Nat → Option Row) : HV → Option (Option Nat × Sum (List PV) (List HV))
 | .pv .nilsl => some (none, .inl [])
 | .pv (.usl _ []) => some (none, .inl [])
 | .osl id 0 len => match row id with
  | some (.p sh' es _) => if sh' = sh ∧ len ≤ es.length then some (some id, .inl (es.take len)) else none
  | some (.h sh' es) => if sh' = sh ∧ len ≤ es.length then some (some id, .inr (es.take len)) else none
  | _ => none
 | _ => none
def a57 (sh : Shape) (row : Nat → Option Row) : HV → Option (Nat × List PV)
 | .osl id 0 len => match row id with
  | some (.room sh' es) => if sh' = sh ∧ len = es.length then some (id, es) else none
  | _ => none
 | _ => none
def aC7 (sh : Shape) : Sum (List PV) (List HV) → Sum (List PV) (List HV) → Row
 | .inl a, .inl b => .p sh (a ++ b)
 | .inl a, .inr b => .h sh (a.map .pv ++ b)
 | .inr a, .inl b => .h sh (a ++ b.map .pv)
 | .inr a, .inr b => .h sh (a ++ b)
def ab3 : Sum (List PV) (List HV) → Nat
 | .inl a => a.length
 | .inr a => a.length
def bA8 (sh : Shape) : HV → Row
 | .pv p => .p sh [p]
 | h => .h sh [h]
def aG7 (es : List HV) (sh : Shape) : Row :=
 match es.mapM HV.toPv? with
 | some ps => .p sh ps
 | none => .h sh es
abbrev Upd := List (Nat × Option Row)
def aR6 : Nat → List PV → List (Nat × Option Nat)
 | _, [] => []
 | k, .usl _ [] :: r => (k, none) :: aR6 (k + 1) r
 | k, _ :: r => aR6 (k + 1) r
def aE6 (z : PV) : List (Nat × Option Nat) := aR6 0 z.cells
def bh2 : PV → PV
 | .usl sh [] => .sl sh []
 | p => p
def aL2 : PV → PV
 | .agg cs => .agg (cs.map bh2)
 | p => bh2 p
def bv5 : HV → HV
 | .pv p => .pv (aL2 p)
 | h => h
def bU9 : Shape → List PV → PV
 | none, qs => qs.headD default
 | some _, qs => .agg qs
def aa6 (op : VOp) (id0 : Nat) (get : Nat → Option HV) (row : Nat → Option Row) : Option (HV × Upd) :=
 match op with
 | .mov x => (x.get get).map fun h => (h, [])
 | .pick c a b => match c.get get with
  | some (.pv (.bool t)) => (if t = true then a.get get else b.get get).map fun h => (h, [])
  | _ => none
 | .allocB _ _ => none
 | .alloc sh z => if z.fits sh then some (.optr id0 0 0, [(id0, some (.p sh [z]))]) else none
 | .box sh x => (x.get get).bind fun h => if h.fits sh then some (.optr id0 0 0, [(id0, some (bA8 sh h))]) else none
 | .build zero parts => (parts.mapM fun (q : Nat × Nat × VA) => (q.2.2.get get).map fun h => (q.1, q.2.1, h)).bind fun ps =>
   (bn8 ps (zero.map .pv)).map fun cs => (mkAgg cs, [])
 | .buildSlice sh zero len parts => (parts.mapM fun (q : Nat × VA) => (q.2.get get).map fun h => (q.1, h)).bind fun ps =>
   if ps.all (fun q => decide (q.1 < len) && q.2.fits sh) && zero.fits sh && decide (len * sh.size ≤ 16777216) then
    some (.osl id0 0 len, [(id0, some (aG7 ((ps.foldl (fun es q => es.set q.1 q.2) (List.replicate len (.pv zero))).map bv5) sh))])
   else none
 | .load sh x => match x.get get with
  | some (.pv (.rptr esh e off)) => (bn7 sh esh e off).map fun p => (.pv p, [])
  | some (.optr id idx off) => match row id with
   | some (.p esh es _) => (es[idx]?).bind fun e => (bn7 sh esh e off).map fun p => (.pv p, [])
   | some (.h esh es) => (es[idx]?).bind fun e => (bJ2 sh esh e off).map fun p => (p, [])
   | _ => none
  | _ => none
 | .store sh x v => match x.get get, v.get get with
  | some (.optr id idx off), some h => if h.fits sh = false then none else
   match row id, h with
   | some (.p esh es _), .pv q => (es[idx]?).bind fun e =>
     if off = 0 ∧ sh = esh then some (.undef, [(id, some (.p esh (es.set idx q)))])
     else if off + sh.size ≤ e.cells.length ∧ e.one = false then some (.undef, [(id, some (.p esh (es.set idx (.agg (splice e.cells off q.cells)))))]) else none
   | some (.p esh [e] _), h =>
     if idx = 0 then
      if off = 0 ∧ sh = esh then some (.undef, [(id, some (.h esh [h]))])
      else if off + sh.size ≤ e.cells.length ∧ e.one = false then some (.undef, [(id, some (.h esh [.agg (splice (e.cells.map .pv) off h.cells)]))]) else none
     else none
   | some (.h esh es), h => (es[idx]?).bind fun e =>
     if off = 0 ∧ sh = esh then some (.undef, [(id, some (aG7 (es.set idx h) esh))])
     else if off + sh.size ≤ e.cells.length ∧ e.one = false then some (.undef, [(id, some (aG7 (es.set idx (mkAgg (splice e.cells off h.cells))) esh))]) else none
   | _, _ => none
  | _, _ => none
 | .bin op x y => match x.get get, y.get get with
  | some (.pv a), some (.pv b) => (bg7 op a b).map fun p => (.pv p, [])
  | _, _ => none
 | .beq neg x y => match x.get get, y.get get with
  | some (.pv (.bool a)), some (.pv (.bool b)) => some (.pv (.bool (if neg then !decide (a = b) else decide (a = b))), [])
  | _, _ => none
 | .isNil neg x => match x.get get with
  | some (.pv .nilsl) => some (.pv (.bool (!neg)), [])
  | some (.pv (.usl _ [])) => some (.pv (.bool (!neg)), [])
  | some (.pv (.esl _)) => some (.pv (.bool neg), [])
  | some (.pv (.sl _ es)) => if es.isEmpty then none else some (.pv (.bool neg), [])
  | _ => none
 | .aeq neg ks x y => match x.get get, y.get get with
  | some (.pv (.agg a)), some (.pv (.agg b)) => (ai7 ks a b).map fun t => (.pv (.bool (if neg then !t else t)), [])
  | _, _ => none
 | .not x => match x.get get with
  | some (.pv (.bool a)) => some (.pv (.bool (!a)), [])
  | _ => none
 | .neg x => match x.get get with
  | some (.pv (.int k a)) => some (.pv (.int k (k.wrap (0 - a))), [])
  | _ => none
 | .conv k x => match x.get get with
  | some (.pv (.int _ a)) => some (.pv (.int k (k.wrap a)), [])
  | _ => none
 | .same x => match x.get get with
  | some (.pv (.str s)) => some (.pv (.str s), [])
  | _ => none
 | .mkfn f caps => (caps.mapM (VA.get get)).map fun hs => (match hs.mapM HV.toPv? with | some ps => .pv (.fn f ps) | none => .fn f hs, [])
 | .mkbf f first => (first.mapM (VA.get get)).bind fun hs => (hs.mapM HV.toPv?).map fun ps => (.pv (.bfn f ps), [])
 | .slStr x lo hi => match x.get get with
  | some (.pv (.str s)) => (aB7 get 0 lo).bind fun l => (aB7 get s.length hi).bind fun h =>
    if l ≤ h ∧ h ≤ s.length then some (.pv (.str ((s.take h).drop l)), []) else none
  | _ => none
 | .slSl esh x lo hi => match x.get get with
  | some (.pv .nilsl) => (aB7 get 0 lo).bind fun l => (aB7 get 0 hi).bind fun h => if l = 0 ∧ h = 0 then some (.pv .nilsl, []) else none
  | some (.pv (.usl _ [])) => (aB7 get 0 lo).bind fun l => (aB7 get 0 hi).bind fun h => if l = 0 ∧ h = 0 then some (.pv .nilsl, []) else none
  | some (.pv (.sl sh es)) => (aB7 get 0 lo).bind fun l => (aB7 get es.length hi).bind fun h =>
    if sh = esh ∧ l ≤ h ∧ h ≤ es.length then some (.pv (.sl sh ((es.take h).drop l)), []) else none
  | some (.osl id off len) => (aB7 get 0 lo).bind fun l => (aB7 get len hi).bind fun h =>
    if ai8 esh row (.osl id off len) = true ∧ l ≤ h ∧ h ≤ len then some (.osl id (off + l) (h - l), []) else none
  | _ => none
 | .slSl3 x lo hi mx => match x.get get with
  | some (.pv .nilsl) => (aB7 get 0 (some lo)).bind fun l => (aB7 get 0 (some hi)).bind fun h => (aB7 get 0 (some mx)).bind fun m => if l ≤ h ∧ h ≤ m ∧ m = 0 then some (.any, []) else none
  | some (.pv (.sl _ es)) => (aB7 get 0 (some lo)).bind fun l => (aB7 get 0 (some hi)).bind fun h => (aB7 get 0 (some mx)).bind fun m => if l ≤ h ∧ h ≤ m ∧ m ≤ es.length then some (.any, []) else none
  | some (.osl _ _ len) => (aB7 get 0 (some lo)).bind fun l => (aB7 get 0 (some hi)).bind fun h => (aB7 get 0 (some mx)).bind fun m => if l ≤ h ∧ h ≤ m ∧ m ≤ len then some (.any, []) else none
  | _ => none
 | .fieldAddr off x => match x.get get with
  | some (.pv (.rptr sh e o)) => some (.pv (.rptr sh e (o + off)), [])
  | some (.optr id idx o) => some (.optr id idx (o + off), [])
  | _ => none
 | .field sh off x => match x.get get with
  | some (.pv (.agg cs)) => (bg9 sh cs off).map fun q => (.pv q, [])
  | some (.agg cs) => (bh0 sh cs off).map fun q => (q, [])
  | _ => none
 | .indexAddr sh x i => match x.get get, i.get get with
  | some (.pv (.sl sh' es)), some (.pv (.int _ n)) => if 0 ≤ n ∧ sh' = sh then (es[n.toNat]?).map fun e => (.pv (.rptr sh e 0), []) else none
  | some (.osl id off len), some (.pv (.int _ n)) => if 0 ≤ n ∧ n.toNat < len ∧ ai8 sh row (.osl id off len) then some (.optr id (off + n.toNat) 0, []) else none
  | _, _ => none
 | .indexArr size len x i => match x.get get, i.get get with
  | some (.pv (.rptr sh e o)), some (.pv (.int _ n)) => if 0 ≤ n ∧ n.toNat < len then some (.pv (.rptr sh e (o + n.toNat * size)), []) else none
  | some (.optr id idx o), some (.pv (.int _ n)) => if 0 ≤ n ∧ n.toNat < len then some (.optr id idx (o + n.toNat * size), []) else none
  | _, _ => none
 | .indexStr x i => match x.get get, i.get get with
  | some (.pv (.str s)), some (.pv (.int _ n)) => if 0 ≤ n then (s[n.toNat]?).map fun b => (.pv (.int .u8 b.toNat), []) else none
  | _, _ => none
 | .indexAgg sh len x i => match x.get get, i.get get with
  | some (.pv (.agg cs)), some (.pv (.int _ n)) => if 0 ≤ n ∧ n.toNat < len then (bg9 sh cs (n.toNat * sh.size)).map fun q => (.pv q, []) else none
  | _, _ => none
 | .extract x i => match x.get get with
  | some (.tup vs) => (vs[i]?).map fun h => (h, [])
  | some (.pv (.tup vs)) => (vs[i]?).map fun h => (.pv h, [])
  | _ => none
 | .lenStr x => match x.get get with
  | some (.pv (.str s)) => some (.pv (.int .i64 s.length), [])
  | _ => none
 | .lenSl x => match x.get get with
  | some (.pv .nilsl) => some (.pv (.int .i64 0), [])
  | some (.pv (.usl _ [])) => some (.pv (.int .i64 0), [])
  | some (.pv (.esl _)) => some (.pv (.int .i64 0), [])
  | some (.pv (.sl _ es)) => some (.pv (.int .i64 es.length), [])
  | some (.osl _ _ len) => some (.pv (.int .i64 len), [])
  | _ => none
 | .capNil x => match x.get get with
  | some (.pv .nilsl) => some (.pv (.int .i64 0), [])
  | _ => none
 | .minmax isMax xs => match xs.mapM (VA.get get) with
  | some [.pv (.int k a), .pv (.int k' b)] => if k = k' then some (.pv (.int k (if isMax then max a b else min a b)), []) else none
  | _ => none
 | .append sh bytes x y => match x.get get, y.get get with
  | some a, some b => match a57 sh row a with
   | some (id, es) => (aC6 row b).bind fun e => match e with
    | .inl ys => if ai8 sh row b = true ∧ 0 < sh.size ∧ (es.length + ys.length) * bytes ≤ 140737488355328 ∧ es.length + ys.length ≤ 9223372036854775807 then
      some (.pv (.sl sh (es ++ ys)), [(id, none)])
     else none
    | .inr _ => none
   | none => (bn9 sh row a).bind fun s => (aC6 row b).bind fun e =>
    if ai8 sh row b = true ∧ 0 < sh.size ∧ (ab3 s.2 + ab3 e) * bytes ≤ 140737488355328 ∧ ab3 s.2 + ab3 e ≤ 9223372036854775807 then
     some (.osl id0 0 (ab3 s.2 + ab3 e), (id0, some (aC7 sh s.2 e)) :: (match s.1 with | some id => [(id, none)] | none => []))
    else none
  | _, _ => none
 | .nilCheck x => match x.get get with
  | some (.optr id idx off) => some (.optr id idx off, [])
  | some (.pv (.rptr sh e off)) => some (.pv (.rptr sh e off), [])
  | some (.pv (.fn f caps)) => some (.pv (.fn f caps), [])
  | some (.pv (.bfn f caps)) => some (.pv (.bfn f caps), [])
  | some (.fn f caps) => some (.fn f caps, [])
  | _ => none
 | .bstr x => match x.get get with
  | some h => (aC6 row h).bind fun e => match e with
   | .inl es => if ai8 none row h = true then (bh1 es).map fun t => (.pv (.str t), []) else none
   | .inr _ => none
  | none => none
 | .copyS x y => match x.get get, y.get get with
  | some (.osl id 0 len), some (.pv (.str s)) => match row id with
   | some (.p none es _) => if len ≤ es.length then some (.pv (.int .i64 (Nat.min s.length len)), [(id, some (.p none (cpS s len es)))]) else none
   | _ => none
  | _, _ => none
 | .compl x => match x.get get with
  | some (.pv (.int k a)) => some (.pv (.int k (notI k a)), [])
  | _ => none
 | .makeSlice sh bytes z n c => match n.get get, c.get get with
  | some (.pv (.int .i64 a)), some (.pv (.int .i64 b)) =>
    if 0 ≤ a ∧ a ≤ b ∧ b * bytes ≤ 281474976710656 ∧ b ≤ 9223372036854775807 ∧ z.fits sh = true ∧ 0 < sh.size then some (.osl id0 0 a.toNat, [(id0, some (.p sh (List.replicate a.toNat (aL2 z)) (aE6 z)))]) else none
  | _, _ => none
 | .appZ sh bytes z x n => match x.get get, n.get get with
  | some (.pv .nilsl), some (.pv (.int .i64 a)) =>
    if 0 < a ∧ a * bytes ≤ 140737488355328 ∧ a ≤ 9223372036854775807 ∧ z.fits sh = true ∧ 0 < sh.size then some (.osl id0 0 a.toNat, [(id0, some (.p sh (List.replicate a.toNat (aL2 z)) (aE6 z)))]) else none
  | _, _ => none
 | .clear sh x => match x.get get with
  | some (.pv .nilsl) => some (.tup [], [])
  | some (.osl id off _) => match row id with
   | some (.p sh' es _) => if sh' = sh ∧ 0 < sh.size ∧ off ≤ es.length then some (.tup [], [(id, some (.p sh (es.take off)))]) else none
   | _ => none
  | _ => none
 | .call _ _ => none
 | .callv _ _ => none
 | .bad => none
def at0 : HV → List Nat
 | .osl id _ _ => [id]
 | .optr id _ _ => [id]
 | _ => []
def ag9 : Nat → HV → List Nat
 | _, .osl id _ _ => [id]
 | _, .optr id _ _ => [id]
 | n + 1, .agg cs => cs.flatMap (ag9 n)
 | n + 1, .fn _ caps => caps.flatMap (ag9 n)
 | _, _ => []
def reads (op : VOp) (get : Nat → Option HV) : List Nat :=
 let r (x : VA) : List Nat := ((x.get get).map at0).getD []
 match op with
 | .load _ x => r x
 | .store _ x v => r x ++ ((v.get get).map (ag9 4)).getD []
 | .append _ _ x y => r x ++ r y
 | .indexAddr _ x _ => r x
 | .slSl _ x _ _ => r x
 | .clear _ x => r x
 | .bstr x => r x
 | .copyS x _ => r x
 | _ => []
def bo0 (sh : Shape) (es : List PV) (tk : List (Nat × Option Nat)) (len : Nat) : Option PV :=
 match tk with
 | [] => some (.usl sh (es.take len))
 | _ => if len = es.length ∧ (tk.all fun q => q.2.isNone) = true then some (.dsl sh es (tk.map (·.1))) else none
def ah2 (gs : List Nat) (row : Nat → Option Row) : Nat → HV → Option PV
 | _, .pv p => some p
 | _ + 1, .osl id off len => match row id with
  | some (.p sh es tk) => if gs.contains id = true then (if off = 0 ∧ len ≤ es.length then bo0 sh es tk len else none) else if off + len ≤ es.length then some (.sl sh ((es.drop off).take len)) else none
  | _ => none
 | _ + 1, .optr id idx off => if gs.contains id = true then none else match row id with
  | some (.p sh es _) => (es[idx]?).map fun e => .rptr sh e off
  | _ => none
 | n + 1, .agg cs => (cs.mapM (ah2 gs row n)).map .agg
 | n + 1, .fn f caps => (caps.mapM (ah2 gs row n)).map (.fn f)
 | _, _ => none
def aR7 (gs : List Nat) : Nat → HV → List Nat
 | _ + 1, .osl id _ _ => if gs.contains id = true then [] else [id]
 | _ + 1, .optr id _ _ => [id]
 | n + 1, .agg cs => cs.flatMap (aR7 gs n)
 | n + 1, .fn _ caps => caps.flatMap (aR7 gs n)
 | _, _ => []
def ag2 (gs : List Nat) : Nat → HV → List Nat
 | _ + 1, .osl id _ _ => if gs.contains id = true then [id] else []
 | n + 1, .agg cs => cs.flatMap (ag2 gs n)
 | n + 1, .fn _ caps => caps.flatMap (ag2 gs n)
 | _, _ => []
def ad6 (gs : List Nat) : Upd := gs.map fun id => (id, none)
def ak6 (id : Nat) : PV → HV × Upd × Nat
 | .usl sh es => (.osl id 0 es.length, [(id, some (.p sh es))], id + 1)
 | .dsl sh es cs => (.osl id 0 es.length, [(id, some (.p sh es (cs.map fun c => (c, none))))], id + 1)
 | p => (.pv p, [], id)
def af3 (imp : Nat → PV → HV × Upd × Nat) (id : Nat) : List PV → List HV × Upd × Nat
 | [] => ([], [], id)
 | p :: r => match imp id p with
  | (h, u, id1) => match af3 imp id1 r with
   | (hs, us, id2) => (h :: hs, u ++ us, id2)
def ay6 (id : Nat) : PV → HV × Upd × Nat
 | .agg cs => match af3 ak6 id cs with
  | (hs, u, id1) => (mkAgg hs, u, id1)
 | p => ak6 id p
def af5 (id : Nat) : PV → HV × Upd × Nat
 | .tup vs => match af3 ay6 id vs with
  | (hs, u, id1) => (.tup hs, u, id1)
 | p => ay6 id p
def ce5 (tk : List (Nat × Option Nat)) (c idx : Nat) : Prop := ∃ m, (c, m) ∈ tk ∧ ∀ k, m = some k → idx < k
def bc3 (x : VA) (id0 : Nat) (get : Nat → Option HV) (row : Nat → Option Row) (h : HV) (upd : Upd) : Prop :=
 ∃ id idx off esh es tk e sh es', x.get get = some (.optr id idx off) ∧ row id = some (.p esh es tk) ∧ es[idx]? = some e ∧ e.cells[off]? = some (.sl sh es') ∧ ce5 tk off idx ∧ 0 < sh.size ∧
  h = .osl id0 0 es'.length ∧ upd = [(id0, some (.room sh es')), (id, some (.p esh es))]
def aY3 : HV → Bool
 | .osl _ 0 _ => true
 | _ => false
def ai9 (row : Nat → Option Row) : HV → Option PV
 | .pv p => some (bh2 p)
 | .osl id 0 len => match row id with
  | some (.p sh es _) => if len = es.length ∧ 0 < sh.size then some (.sl sh es) else none
  | _ => none
 | _ => none
def bV3 (sh : Shape) (x v : VA) (get : Nat → Option HV) (row : Nat → Option Row) (h : HV) (upd : Upd) : Prop :=
 ∃ id idx off esh es tk tk' e hv qs, x.get get = some (.optr id idx off) ∧ v.get get = some hv ∧ hv.fits sh = true ∧ row id = some (.p esh es tk) ∧ es[idx]? = some e ∧
  hv.cells.mapM (ai9 row) = some qs ∧ (hv.cells.flatMap at0).Nodup ∧ id ∉ hv.cells.flatMap at0 ∧
  (off = 0 ∧ sh = esh ∨ off + sh.size ≤ e.cells.length ∧ e.one = false) ∧
  (∀ c m', (c, m') ∈ tk' → ∃ m, (c, m) ∈ tk ∧ ((c < off ∨ off + sh.size ≤ c) ∧ m' = m ∨
   off ≤ c ∧ (∃ q, hv.cells[c - off]? = some q ∧ aY3 q = true) ∧ (m' = none ∧ m = none ∨ ∃ k k', m = some k ∧ m' = some k' ∧ idx ≤ k ∧ k' ≤ idx + 1))) ∧
  h = .undef ∧ upd = (id, some (.p esh (es.set idx (if off = 0 ∧ sh = esh then bU9 sh qs else .agg (splice e.cells off qs))) tk')) :: ad6 (hv.cells.flatMap at0)
def bo1 (op : VOp) (id0 : Nat) (get : Nat → Option HV) (row : Nat → Option Row) (h : HV) (upd : Upd) : Prop :=
 ∃ h0 qs, aa6 op id0 get row = some (h0, []) ∧ h0.cells.mapM (ai9 row) = some qs ∧ (h0.cells.flatMap at0).Nodup ∧ upd = ad6 (h0.cells.flatMap at0) ∧
  ((∃ cs, h0 = .agg cs ∧ h = .pv (.agg qs)) ∨ ∃ id off len, h0 = .osl id off len ∧ h = .pv (qs.headD default))
def bV4 (sh : Shape) (x y : VA) (get : Nat → Option HV) (row : Nat → Option Row) (h : HV) (upd : Upd) : Prop :=
 ∃ id len es tk hb ys, x.get get = some (.osl id 0 len) ∧ row id = some (.p sh es tk) ∧ y.get get = some hb ∧ aC6 row hb = some (.inl ys) ∧ ai8 sh row hb = true ∧ 0 < sh.size ∧ len + ys.length ≤ es.length ∧
  h = .osl id 0 (len + ys.length) ∧ upd = [(id, some (.p sh (es.take len ++ ys ++ es.drop (len + ys.length))))]
def bv6 (sh : Shape) (x : VA) (lo hi : Option VA) (get : Nat → Option HV) (row : Nat → Option Row) (h : HV) (upd : Upd) : Prop :=
 ∃ id len es tk l r, x.get get = some (.osl id 0 len) ∧ row id = some (.p sh es tk) ∧ aB7 get 0 lo = some l ∧ aB7 get len hi = some r ∧ l ≤ r ∧ r ≤ es.length ∧ 0 < sh.size ∧ h = .osl id l (r - l) ∧ upd = []
mutual
def HV.ids : HV → List Nat
 | .osl id _ _ => [id]
 | .optr id _ _ => [id]
 | .agg cs => aW1 cs
 | .tup cs => aW1 cs
 | .fn _ cs => aW1 cs
 | _ => []
def aW1 : List HV → List Nat
 | [] => []
 | h :: r => h.ids ++ aW1 r
end
def Row.ids : Row → List Nat
 | .p _ _ _ => []
 | .h _ es => aW1 es
 | .room _ _ => []
 | .b _ _ _ => []
mutual
def HV.ren (π : Nat → Nat) : HV → HV
 | .osl id off len => .osl (π id) off len
 | .optr id idx off => .optr (π id) idx off
 | .agg cs => .agg (bh3 π cs)
 | .tup cs => .tup (bh3 π cs)
 | .fn f cs => .fn f (bh3 π cs)
 | .pv p => .pv p
 | .undef => .undef
 | .any => .any
def bh3 (π : Nat → Nat) : List HV → List HV
 | [] => []
 | h :: r => h.ren π :: bh3 π r
end
def Row.ren (π : Nat → Nat) : Row → Row
 | .p sh es tk => .p sh es tk
 | .h sh es => .h sh (bh3 π es)
 | .room sh es => .room sh es
 | .b T e s => .b T e s
def bh4 (hp : List (Nat × Option Row)) : Nat → List Nat → List Nat → Option (List Nat)
 | _, [], seen => some seen
 | 0, _ :: _, _ => none
 | n + 1, id :: todo, seen => if seen.contains id then bh4 hp n todo seen else
  match ae0 hp id with
  | some r => bh4 hp n (r.ids ++ todo) (seen ++ [id])
  | none => bh4 hp n todo (seen ++ [id])
def a58 : List Nat → Nat → Nat
 | [], _ => 0
 | x :: r, k => if x = k then 0 else a58 r k + 1
def aU3 (tm : List (Nat × HV)) : List Nat → List (Nat × HV)
 | [] => []
 | s :: ks => match look tm s with
  | some h => (s, h) :: aU3 tm ks
  | none => aU3 tm ks
def aY4 (hp : List (Nat × Option Row)) (π : Nat → Nat) : Nat → List Nat → List (Nat × Option Row)
 | _, [] => []
 | i, id :: r => match ae0 hp id with
  | some x => (i, some (x.ren π)) :: aY4 hp π (i + 1) r
  | none => aY4 hp π (i + 1) r
def aG8 (ks : List Nat) (st : VSt) : VSt :=
 match bh4 st.hp 200 (aW1 ((aU3 st.tm ks).map (·.2))) [] with
 | some l => { tm := (aU3 st.tm ks).map fun x => (x.1, x.2.ren (a58 l)), hp := aY4 st.hp (a58 l) 0 l, nx := l.length }
 | none => st
def bc4 (s : Nat) (sh : Shape) (st : VSt) : VSt :=
 match look st.tm s with
 | some (.pv .nilsl) => { tm := (s, .osl st.nx 0 0) :: st.tm, hp := (st.nx, some (.p sh [])) :: st.hp, nx := st.nx + 1 }
 | some (.pv (.usl _ [])) => { tm := (s, .osl st.nx 0 0) :: st.tm, hp := (st.nx, some (.p sh [])) :: st.hp, nx := st.nx + 1 }
 | _ => st
end Go.Vm
