import Derived.Test.YtkcnhmohphapfaaGreatDoorVmX
import Derived.Test.YtkcnhmohphapfaaGreatDoorVmB
namespace Go.Proofs.YtkcnhmohphapfaaGreatDoor
open Go.Vm
set_option autoImplicit false
set_option linter.unusedVariables false
set_option linter.unusedSimpArgs false
set_option maxRecDepth 100000
noncomputable section
abbrev Str := List UInt8
structure aa0 where
  Name : Str
  Value : Str
  Query : Bool
  deriving Inhabited
def zE1 (x : aa0) : PV := .agg [.str x.Name,.str x.Value,.bool x.Query]
structure aa5 where
  Id : Int
  Proto : Str
  Role : Int
  Phase : Int
  Step : Int
  Key : (List aa0)
  Own : Str
  Peer : Str
  User : Str
  Err : Int
  deriving Inhabited
def zE2 (x : aa5) : PV := .agg [.int .i64 x.Id,.str x.Proto,.int .i64 x.Role,.int .i64 x.Phase,.int .i64 x.Step,.sl (some 3) (List.map zE1 x.Key),.str x.Own,.str x.Peer,.str x.User,.int .i64 x.Err]
structure aa2 where
  Owner : Str
  Seed : Str
  Keys : (List (List aa0))
  Next : Int
  Convs : (List aa5)
  Count : Int
  deriving Inhabited
def aa1 (x : (List aa0)) : PV := .sl (some 3) (List.map zE1 x)
def zE3 (x : aa2) : PV := .agg [.str x.Owner,.str x.Seed,.sl none (List.map aa1 x.Keys),.int .i64 x.Next,.sl (some 10) (List.map zE2 x.Convs),.int .i64 x.Count]
def ai6 : Option Bool := some true
def aU2 (owner : Str) (seed : Str) : Option (aa2 × Int) :=
  if ((decide (owner = [])) || (decide (32 < (List.length owner : Int)))) then some ((aa2.mk [] [] ([] : List (List aa0)) 0 ([] : List aa5) 0),25) else if (decide (1024 < (List.length seed : Int))) then some ((aa2.mk [] [] ([] : List (List aa0)) 0 ([] : List aa5) 0),4) else some ((aa2.mk owner seed ([] : List (List aa0)) 1 ([] : List aa5) 0),0)
def am1 (name : Str) : Option Bool :=
  (if (decide (0 < (List.length name : Int))) then (aj4 name 0).bind fun c2 => some (decide ((c2.toNat : Int) = 33)) else some false).bind fun t3 => some t3
def ak9 (p2 : Str) (i : Int) : Option (Step Int Bool) :=
  if (decide (i < (List.length p2 : Int))) then (aj4 p2 i).bind fun c14 => (if (decide (97 ≤ (c14.toNat : Int))) then (aj4 p2 i).bind fun c16 => some (decide ((c16.toNat : Int) ≤ 122)) else some false).bind fun t17 => (if (!t17) then if (decide (i = 0)) then some true else (aj4 p2 i).bind fun c20 => if (decide (48 ≤ (c20.toNat : Int))) then (aj4 p2 i).bind fun c22 => if (decide ((c22.toNat : Int) ≤ 57)) then some false else (aj4 p2 i).bind fun c24 => if (decide ((c24.toNat : Int) = 45)) then some false else (aj4 p2 i).bind fun c26 => some (!(decide ((c26.toNat : Int) = 95))) else (aj4 p2 i).bind fun c27 => if (decide ((c27.toNat : Int) = 45)) then some false else (aj4 p2 i).bind fun c29 => some (!(decide ((c29.toNat : Int) = 95))) else some false).bind fun t30 => if t30 then some (.done false) else some (.cont (IntKind.wrap .i64 (i + 1))) else some (.done ((decide (1 ≤ (List.length p2 : Int))) && (decide ((List.length p2 : Int) ≤ 32))))
def an1 (p2 : Str) : Option Bool :=
  ad8 (fun s => ak9 p2 s) 0
def aw3 (s_ : Str) : Option Bool :=
  (am1 s_).bind fun x34 => if x34 then (cut s_ 1 (List.length s_ : Int)).bind fun x36 => an1 x36 else an1 s_
def aj5 (s_ : Str) (i : Int) : Option (Step Int Bool) :=
  if (decide (i < (List.length s_ : Int))) then (aj4 s_ i).bind fun c12 => (if (decide ((c12.toNat : Int) = 0)) then some true else (aj4 s_ i).bind fun c14 => if (decide ((c14.toNat : Int) = 10)) then some true else (aj4 s_ i).bind fun c16 => some (decide ((c16.toNat : Int) = 13))).bind fun t17 => if t17 then some (.done false) else some (.cont (IntKind.wrap .i64 (i + 1))) else some (.done true)
def at1 (s_ : Str) : Option Bool :=
  ad8 (fun s => aj5 s_ s) 0
def ak2 (before : (List aa0)) (a : aa0) (i : Int) : Option (Step Int Int) :=
  if (decide (i < (List.length before : Int))) then (ao6 before i).bind fun x17 => if (decide (x17.Name = a.Name)) then some (.done 7) else some (.cont (IntKind.wrap .i64 (i + 1))) else some (.done 0)
def aI2 (before : (List aa0)) (a : aa0) : Option Int :=
  if (decide (32 ≤ (List.length before : Int))) then some 22 else (aw3 a.Name).bind fun x2 => if (!x2) then some 6 else (if a.Query then if (!decide (a.Value = [])) then some true else (at1 a.Value).bind fun x6 => some (!x6) else (at1 a.Value).bind fun x7 => some (!x7)).bind fun t8 => if t8 then some 2 else if (decide (1024 < (List.length a.Value : Int))) then some 4 else ad8 (fun s => ak2 before a s) 0
def al0 (l : (List aa0)) (i : Int) : Option (Step Int Int) :=
  if (decide (i < (List.length l : Int))) then (cut l 0 i).bind fun x9 => (ao6 l i).bind fun x10 => (aI2 x9 x10).bind fun x11 => if (!decide (x11 = 0)) then some (.done x11) else some (.cont (IntKind.wrap .i64 (i + 1))) else some (.done 0)
def at2 (l : (List aa0)) : Option Int :=
  ad8 (fun s => al0 l s) 0
def ak3 (l : (List aa0)) (name : Str) (i : Int) : Option (Step Int (Str × Bool)) :=
  if (decide (i < (List.length l : Int))) then (ao6 l i).bind fun x11 => (if (decide (x11.Name = name)) then (ao6 l i).bind fun x13 => some (!x13.Query) else some false).bind fun t14 => if t14 then (ao6 l i).bind fun x16 => some (.done (x16.Value,true)) else some (.cont (IntKind.wrap .i64 (i + 1))) else some (.done ([],false))
def ar8 (l : (List aa0)) (name : Str) : Option (Str × Bool) :=
  ad8 (fun s => ak3 l name s) 0
def aD2 (l : (List aa0)) (name : Str) : Option Str :=
  (ar8 l name).bind fun x1 => some x1.1
def an2 (l : (List aa0)) : Option Bool :=
  (aD2 l [117,115,101,114]).bind fun x11 => (aD2 l [33,115,101,99,114,101,116]).bind fun x12 => some ((decide (1 ≤ (List.length x11 : Int))) && ((decide ((List.length x11 : Int) ≤ 32)) && ((decide (1 ≤ (List.length x12 : Int))) && (decide ((List.length x12 : Int) ≤ 64)))))
def ap4 (l : (List aa0)) (i : Int) : Option (Step Int Bool) :=
  if (decide (i < (List.length l : Int))) then (ao6 l i).bind fun x9 => if x9.Query then some (.done false) else some (.cont (IntKind.wrap .i64 (i + 1))) else (an2 l).map .done
def at3 (l : (List aa0)) : Option Bool :=
  (at2 l).bind fun x1 => if (!decide (x1 = 0)) then some false else ad8 (fun s => ap4 l s) 0
def aj6 (l : (List aa0)) (i : Int) (out : (List aa0)) : Option (Step (Int × (List aa0)) (List aa0)) :=
  if (decide (i < (List.length l : Int))) then (ao6 l i).bind fun x11 => (am1 x11.Name).bind fun x12 => if (!x12) then (ao6 l i).bind fun x14 => (aM8 40 out [x14]).bind fun x15 => some (.cont ((IntKind.wrap .i64 (i + 1)),x15)) else some (.cont ((IntKind.wrap .i64 (i + 1)),out)) else some (.done out)
def aq0 (l : (List aa0)) : Option (List aa0) :=
  ad8 (fun s => aj6 l s.1 s.2) (0,([] : List aa0))
def an3 (a : (List aa0)) (b : (List aa0)) (i : Int) : Option (Step Int Bool) :=
  if (decide (i < (List.length a : Int))) then (ao6 a i).bind fun x9 => (ao6 b i).bind fun x10 => if (!(decide (x9.Name = x10.Name) && (decide (x9.Value = x10.Value) && (decide (x9.Query = x10.Query) && true)))) then some (.done false) else some (.cont (IntKind.wrap .i64 (i + 1))) else some (.done true)
def am2 (a : (List aa0)) (b : (List aa0)) : Option Bool :=
  if (!decide ((List.length a : Int) = (List.length b : Int))) then some false else ad8 (fun s => an3 a b s) 0
def ap5 (l : (List (List aa0))) (public_ : (List aa0)) (i : Int) : Option (Step Int Int) :=
  if (decide (i < (List.length l : Int))) then (ao6 l i).bind fun x9 => (aq0 x9).bind fun x10 => (am2 x10 public_).bind fun x11 => if x11 then some (.done i) else some (.cont (IntKind.wrap .i64 (i + 1))) else some (.done (-1))
def ay5 (l : (List (List aa0))) (public_ : (List aa0)) : Option Int :=
  ad8 (fun s => ap5 l public_ s) 0
def av1 (a : aa5) (b : aa5) : Option Bool :=
  (if (decide (a.Id = b.Id)) then if (decide (a.Proto = b.Proto)) then if (decide (a.Role = b.Role)) then if (decide (a.Phase = b.Phase)) then if (decide (a.Step = b.Step)) then (am2 a.Key b.Key).bind fun x6 => if x6 then if (decide (a.Own = b.Own)) then if (decide (a.Peer = b.Peer)) then if (decide (a.User = b.User)) then some (decide (a.Err = b.Err)) else some false else some false else some false else some false else some false else some false else some false else some false else some false).bind fun t11 => some t11
def ao7 (c : aa5) : Option Bool :=
  (av1 c (aa5.mk c.Id [] 0 0 0 [] [] [] [] 0)).bind fun x1 => some x1
def ak4 (proto : Str) (p2 : Bool) : Option Int :=
  if p2 then some 3 else if (decide (proto = [112,108,97,105,110])) then some 2 else some 0
def ad9 (proto : Str) : Option Int :=
  if (decide (proto = [99,104,97,108])) then ak4 proto (decide (proto = [99,104,97,108])) else ak4 proto (decide (proto = [109,117,116,117,97,108]))
def aq1 (key : (List aa0)) : Option Str :=
  (ar8 key [117,115,101,114]).bind fun x1 => some x1.1
def ap6 (key : (List aa0)) : Option Str :=
  (ar8 key [33,115,101,99,114,101,116]).bind fun x1 => some x1.1
def ag9 (key : (List aa0)) : Option Int :=
  (at2 key).bind fun x1 => if (!decide (x1 = 0)) then some x1 else (aq1 key).bind fun x3 => (ap6 key).bind fun x4 => if ((decide ((List.length x3 : Int) < 1)) || ((decide (32 < (List.length x3 : Int))) || ((decide ((List.length x4 : Int) < 1)) || (decide (64 < (List.length x4 : Int)))))) then some 52 else some 0
def ao8 (c : aa5) : Option Bool :=
  if (decide (c.Proto = [99,104,97,108])) then some ((decide (c.Role = 1)) && (decide (0 < c.Step))) else if ((decide (c.Proto = [109,117,116,117,97,108])) && (decide (c.Role = 2))) then some (decide (0 < c.Step)) else some ((decide (c.Proto = [109,117,116,117,97,108])) && (decide (1 < c.Step)))
def ay6 (proto : Str) : Option Int :=
  if (decide (proto = [99,104,97,108])) then some 2 else some 1
def ay7 (c : aa5) : Option Int :=
  (ad9 c.Proto).bind fun x1 => if (decide (c.Step = x1)) then some 3 else (ay6 c.Proto).bind fun x3 => if (decide ((decide ((Int.tmod c.Step 2) = 0)) = (decide (c.Role = x3)))) then some 1 else some 2
def at4 (c : aa5) (p30 : Int) (p31 : Int) (p33 : Str) : Option Bool :=
  some ((decide (c.Phase = p30)) && ((decide (c.User = p33)) && (decide (c.Err = p31))))
def aj7 (c : aa5) (p30 : Int) (p31 : Int) : Option Bool :=
  if (decide (p30 = 3)) then (aq1 c.Key).bind fun x38 => at4 c p30 p31 x38 else at4 c p30 p31 []
def al7 (c : aa5) : Option Bool :=
  (if (decide (c.Id < 0)) then some true else if (decide (1048575 < c.Id)) then some true else (ad9 c.Proto).bind fun x3 => if (decide (x3 = 0)) then some true else if (!decide (c.Role = 1)) then if (!decide (c.Role = 2)) then some true else if (!decide ((List.length c.Own : Int) = 32)) then some true else if (decide (c.Step < 0)) then some true else (ad9 c.Proto).bind fun x9 => if (decide (x9 < c.Step)) then some true else (ag9 c.Key).bind fun x11 => some (!decide (x11 = 0)) else if (!decide ((List.length c.Own : Int) = 32)) then some true else if (decide (c.Step < 0)) then some true else (ad9 c.Proto).bind fun x14 => if (decide (x14 < c.Step)) then some true else (ag9 c.Key).bind fun x16 => some (!decide (x16 = 0))).bind fun t17 => if t17 then some false else (ao8 c).bind fun x19 => (if x19 then if (!decide ((List.length c.Peer : Int) = 32)) then some true else (ao8 c).bind fun x22 => if (!x22) then some (!decide (c.Peer = [])) else some false else (ao8 c).bind fun x24 => if (!x24) then some (!decide (c.Peer = [])) else some false).bind fun t26 => if t26 then some false else (ay7 c).bind fun x28 => if ((decide (x28 = 2)) && (decide (c.Phase = 4))) then aj7 c 4 28 else aj7 c x28 0
def aj8 (a : aa2) (i_1 : Int) : Option (Step Int Bool) :=
  if (decide (i_1 < (List.length a.Convs : Int))) then (ao6 a.Convs i_1).bind fun x43 => (if (decide (x43.Id < 1)) then some true else if (decide (a.Next ≤ x43.Id)) then some true else if (decide (0 < i_1)) then (ao6 a.Convs (IntKind.wrap .i64 (i_1 - 1))).bind fun x47 => if (decide (x43.Id ≤ x47.Id)) then some true else (ao7 x43).bind fun x49 => if (!x49) then (al7 x43).bind fun x51 => some (!x51) else some false else (ao7 x43).bind fun x52 => if (!x52) then (al7 x43).bind fun x54 => some (!x54) else some false).bind fun t55 => if t55 then some (.done false) else some (.cont (IntKind.wrap .i64 (i_1 + 1))) else some (.done true)
def aj9 (a : aa2) (i : Int) : Option (Step Int Bool) :=
  if (decide (i < (List.length a.Keys : Int))) then (ao6 a.Keys i).bind fun x23 => (at3 x23).bind fun x24 => (if (!x24) then some true else (ao6 a.Keys i).bind fun x26 => (aq0 x26).bind fun x27 => (ay5 a.Keys x27).bind fun x28 => some (!decide (x28 = i))).bind fun t29 => if t29 then some (.done false) else some (.cont (IntKind.wrap .i64 (i + 1))) else (ad8 (fun s => aj8 a s) 0).map .done
def at5 (a : aa2) : Option Bool :=
  (aU2 a.Owner a.Seed).bind fun x1 => if ((!decide (x1.2 = 0)) || ((decide (64 < (List.length a.Keys : Int))) || (decide (32 < (List.length a.Convs : Int))))) then some false else if ((decide (a.Next < 1)) || ((decide (1048560 < a.Next)) || ((decide (a.Count < 0)) || (decide (9007199254740991 < a.Count))))) then some false else ad8 (fun s => aj9 a s) 0
def ag1 : Option (List (List aa0)) :=
  some ([] : List (List aa0))
def ad6 : Option (List (List aa0)) :=
  (aM8 24 ([] : List (List aa0)) []).bind fun x1 => some x1
def aa7 (s_ : (List (List aa0))) : Option (List (List aa0)) :=
  (aM8 24 ([] : List (List aa0)) s_).bind fun x1 => some x1
def ah0 : Option (List aa0) :=
  some ([] : List aa0)
def ae3 : Option (List aa0) :=
  (aM8 40 ([] : List aa0) []).bind fun x1 => some x1
def aa6 (s_ : (List aa0)) : Option (List aa0) :=
  (aM8 40 ([] : List aa0) s_).bind fun x1 => some x1
def ah1 : Option (List aa5) :=
  some ([] : List aa5)
def ae4 : Option (List aa5) :=
  (aM8 128 ([] : List aa5) []).bind fun x1 => some x1
def ab0 (s_ : (List aa5)) : Option (List aa5) :=
  (aM8 128 ([] : List aa5) s_).bind fun x1 => some x1
def ah8 (a : aa2) (v7 : (List (List aa0))) (x13 : (List aa5)) (v18 : Int) (v19 : (List aa5)) : Option (Step (Int × (List aa5)) aa2) :=
  if (decide (v18 < (List.length x13 : Int))) then (ao6 v19 v18).bind fun x22 => (aa6 x22.Key).bind fun x23 => (ao6 v19 v18).bind fun x24 => some (.cont ((IntKind.wrap .i64 (v18 + 1)),(List.set v19 (Int.toNat v18) {x24 with Key := x23}))) else some (.done {a with Keys := v7,Convs := v19})
def at6 (a : aa2) (v7 : (List (List aa0))) : Option aa2 :=
  (ab0 a.Convs).bind fun x13 => ad8 (fun s => ah8 a v7 x13 s.1 s.2) (0,x13)
def al1 (a : aa2) (x1 : (List (List aa0))) (v6 : Int) (v7 : (List (List aa0))) : Option (Step (Int × (List (List aa0))) aa2) :=
  if (decide (v6 < (List.length x1 : Int))) then (ao6 v7 v6).bind fun x10 => (aa6 x10).bind fun x11 => (ao6 v7 v6).bind fun x12 => some (.cont ((IntKind.wrap .i64 (v6 + 1)),(List.set v7 (Int.toNat v6) x11))) else (at6 a v7).map .done
def ay8 (a : aa2) : Option aa2 :=
  (aa7 a.Keys).bind fun x1 => ad8 (fun s => al1 a x1 s.1 s.2) (0,x1)
def aB8 (c : aa5) (a1 : Int) : Option Bool :=
  some (decide (c.Id = (IntKind.wrap .i64 (a1 - 16))))
def aa9 (s_ : (List aa5)) (f : Int) (v5 : Int) : Option (Step Int Int) :=
  if (decide (v5 < (List.length s_ : Int))) then (ao6 s_ v5).bind fun x8 => (aB8 x8 f).bind fun x9 => if x9 then some (.done v5) else some (.cont (IntKind.wrap .i64 (v5 + 1))) else some (.done (-1))
def ac9 (s_ : (List aa5)) (f : Int) : Option Int :=
  ad8 (fun s => aa9 s_ f s) 0
def ar9 (a : aa2) (id : Int) : Option Int :=
  (ac9 a.Convs id).bind fun x1 => some x1
def au5 (a : aa2) (id : Int) : Option Bool :=
  (if (decide (1 ≤ id)) then if (decide (id ≤ 4)) then some true else (ar9 a id).bind fun x3 => some (decide (0 ≤ x3)) else (ar9 a id).bind fun x4 => some (decide (0 ≤ x4))).bind fun t5 => some t5
def a02 (a0 : aa2) (a1 : Int) (a2 : Int) : Option (aa2 × Str × Int) := none
def stringslite_HasPrefix (s_ : Str) (prefix_ : Str) : Option Bool :=
  (if (decide ((List.length prefix_ : Int) ≤ (List.length s_ : Int))) then (cut s_ 0 (List.length prefix_ : Int)).bind fun x2 => some (decide (x2 = prefix_)) else some false).bind fun t3 => some t3
def strings_HasPrefix (s_ : Str) (prefix_ : Str) : Option Bool :=
  (stringslite_HasPrefix s_ prefix_).bind fun x1 => some x1
def an4 (a : aa0) : Option Bool :=
  (strings_HasPrefix a.Name [33]).bind fun x1 => some x1
def ab5 (s_ : (List aa0)) (v5 : Int) : Option (Step Int Int) :=
  if (decide (v5 < (List.length s_ : Int))) then (ao6 s_ v5).bind fun x8 => (an4 x8).bind fun x9 => if x9 then some (.done v5) else some (.cont (IntKind.wrap .i64 (v5 + 1))) else some (.done (-1))
def ab9 (s_ : (List aa0)) : Option Int :=
  ad8 (fun s => ab5 s_ s) 0
def ac2 (i : Int) (s__1 : (List aa0)) : Option (List aa0) :=
  (cut s__1 0 i).bind fun x17 => some x17
def ab1 (i : Int) (j : Int) (s__1 : (List aa0)) : Option (Step (Int × Int × (List aa0)) (List aa0)) :=
  if (decide (j < (List.length s__1 : Int))) then (ao6 s__1 j).bind fun x13 => (an4 x13).bind fun x14 => if (!x14) then (ao6 s__1 i).bind fun x16 => some (.cont ((IntKind.wrap .i64 (i + 1)),(IntKind.wrap .i64 (j + 1)),(List.set s__1 (Int.toNat i) x13))) else some (.cont (i,(IntKind.wrap .i64 (j + 1)),s__1)) else (ac2 i s__1).map .done
def ac4 (s_ : (List aa0)) : Option (List aa0) :=
  (ab9 s_).bind fun x1 => if (decide (x1 = (-1))) then some s_ else ad8 (fun s => ab1 s.1 s.2.1 s.2.2) (x1,(IntKind.wrap .i64 (x1 + 1)),s_)
def ao9 (l : (List aa0)) : Option (List aa0) :=
  (aa6 l).bind fun x1 => (ac4 x1).bind fun x2 => some x2
def stringslite_TrimPrefix (s_ : Str) (prefix_ : Str) : Option Str :=
  (stringslite_HasPrefix s_ prefix_).bind fun x1 => if x1 then (cut s_ (List.length prefix_ : Int) (List.length s_ : Int)).bind fun x3 => some x3 else some s_
def strings_TrimPrefix (s_ : Str) (prefix_ : Str) : Option Str :=
  (stringslite_TrimPrefix s_ prefix_).bind fun x1 => some x1
def ah9 (x1 : Str) (v23 : Int) : Option (Step Int Bool) :=
  if (decide (v23 < (List.length x1 : Int))) then (aj4 x1 v23).bind fun c26 => if (bif (decide ((c26.toNat : Int) < 97)) then (bif (decide ((c26.toNat : Int) < 48)) then ((!decide ((c26.toNat : Int) = 45)) && (!decide ((c26.toNat : Int) = 95))) else ((decide (57 < (c26.toNat : Int))) && ((!decide ((c26.toNat : Int) = 45)) && (!decide ((c26.toNat : Int) = 95))))) else ((decide (122 < (c26.toNat : Int))) && (bif (decide ((c26.toNat : Int) < 48)) then ((!decide ((c26.toNat : Int) = 45)) && (!decide ((c26.toNat : Int) = 95))) else ((decide (57 < (c26.toNat : Int))) && ((!decide ((c26.toNat : Int) = 45)) && (!decide ((c26.toNat : Int) = 95))))))) then some (.done false) else some (.cont (IntKind.wrap .i64 (v23 + 1))) else some (.done true)
def ay9 (s_ : Str) : Option Bool :=
  (strings_TrimPrefix s_ [33]).bind fun x1 => (if (decide (x1 = [])) then some true else if (decide (32 < (List.length x1 : Int))) then some true else (aj4 x1 0).bind fun c4 => if (decide ((c4.toNat : Int) < 97)) then some true else (aj4 x1 0).bind fun c6 => some (decide (122 < (c6.toNat : Int)))).bind fun t7 => if t7 then some false else ad8 (fun s => ah9 x1 s) 0
def stringslite_IndexByte (a0 : Str) (a1 : Int) : Option Int := aD0 a0 a1
def strings_IndexByte (s_ : Str) (c : Int) : Option Int :=
  (stringslite_IndexByte s_ c).bind fun x1 => some x1
def an5 (s_ : Str) (stops : Str) (v5 : Int) : Option (Step Int Int) :=
  if (decide (v5 < (List.length s_ : Int))) then (aj4 s_ v5).bind fun c8 => (strings_IndexByte stops (c8.toNat : Int)).bind fun x9 => if (decide (0 ≤ x9)) then some (.done v5) else some (.cont (IntKind.wrap .i64 (v5 + 1))) else some (.done (List.length s_ : Int))
def ai7 (s_ : Str) (stops : Str) : Option Int :=
  ad8 (fun s => an5 s_ stops s) 0
def aB9 (b : aa0) (a1 : aa0) : Option Bool :=
  some (decide (b.Name = a1.Name))
def ab6 (s_ : (List aa0)) (f : aa0) (v5 : Int) : Option (Step Int Int) :=
  if (decide (v5 < (List.length s_ : Int))) then (ao6 s_ v5).bind fun x8 => (aB9 x8 f).bind fun x9 => if x9 then some (.done v5) else some (.cont (IntKind.wrap .i64 (v5 + 1))) else some (.done (-1))
def ac0 (s_ : (List aa0)) (f : aa0) : Option Int :=
  ad8 (fun s => ab6 s_ f s) 0
def ab7 (s_ : (List aa0)) (f : aa0) : Option Bool :=
  (ac0 s_ f).bind fun x1 => some (decide (0 ≤ x1))
def ap0 (before : (List aa0)) (a : aa0) : Option Int :=
  if (decide (32 ≤ (List.length before : Int))) then some 22 else (ay9 a.Name).bind fun x2 => if (!x2) then some 6 else if (a.Query && (!decide (a.Value = []))) then some 2 else (ai7 a.Value [0,10,13]).bind fun x7 => if (decide (x7 < (List.length a.Value : Int))) then some 2 else if (decide (1024 < (List.length a.Value : Int))) then some 4 else (ab7 before a).bind fun x10 => if x10 then some 7 else some 0
def an6 (l : (List aa0)) (v6 : Int) : Option (Step Int Int) :=
  if (decide (v6 < (List.length l : Int))) then (ao6 l v6).bind fun x9 => (cut l 0 v6).bind fun x10 => (ap0 x10 x9).bind fun x11 => if (!decide (x11 = 0)) then some (.done x11) else some (.cont (IntKind.wrap .i64 (v6 + 1))) else some (.done 0)
def aD3 (l : (List aa0)) : Option Int :=
  ad8 (fun s => an6 l s) 0
def strings_ReplaceAll (a0 : Str) (a1 : Str) (a2 : Str) : Option Str := ay2 a0 a1 a2
def aD4 (s_ : Str) : Option Str :=
  (if (!decide (s_ = [])) then (ai7 s_ [32,9,39]).bind fun x2 => some (decide (x2 = (List.length s_ : Int))) else some false).bind fun t3 => if t3 then some s_ else (strings_ReplaceAll s_ [39] [39,39]).bind fun x5 => (aM7 [39] x5).bind fun x6 => (aM7 x6 [39]).bind fun x7 => some x7
def strings_Join (a0 : (List Str)) (a1 : Str) : Option Str := bx5 a0 a1
def av2 (words : (List Str)) : Option (Str × Int) :=
  (strings_Join words [32]).bind fun x25 => some (x25,0)
def al2 (l : (List aa0)) (v13 : Int) (words : (List Str)) : Option (Step (Int × (List Str)) (Str × Int)) :=
  if (decide (v13 < (List.length l : Int))) then (ao6 l v13).bind fun x17 => if x17.Query then (aM7 x17.Name [63]).bind fun x19 => (aM8 16 words [x19]).bind fun x20 => some (.cont ((IntKind.wrap .i64 (v13 + 1)),x20)) else (aM7 x17.Name [61]).bind fun x21 => (aD4 x17.Value).bind fun x22 => (aM7 x21 x22).bind fun x23 => (aM8 16 words [x23]).bind fun x24 => some (.cont ((IntKind.wrap .i64 (v13 + 1)),x24)) else (av2 words).map .done
def aD5 (l : (List aa0)) : Option (Str × Int) :=
  (aD3 l).bind fun x1 => if (!decide (x1 = 0)) then some ([],x1) else (mkC 16 ([] : Str) 0 (List.length l : Int)).bind fun x3 => ad8 (fun s => al2 l s.1 s.2) (0,x3)
def aF8 : Option (List Str) :=
  some [[99,104,97,108],[109,117,116,117,97,108],[112,108,97,105,110]]
def ai0 (p2 : Str) : Option Str :=
  some p2
def ag6 (a : aa2) (v11 : Int) (v12 : Str) : Option (Step (Int × Str) Str) :=
  if (decide (v11 < (List.length a.Keys : Int))) then (ao6 a.Keys v11).bind fun x15 => (ao9 x15).bind fun x16 => (aD5 x16).bind fun x17 => (aM7 [107,101,121,32] x17.1).bind fun x18 => (aM7 x18 [10]).bind fun x19 => (bAdd v12 x19).bind fun x20 => some (.cont ((IntKind.wrap .i64 (v11 + 1)),x20)) else (ai0 v12).map .done
def af4 (x22 : (List Str)) (v27 : Int) (v28 : Str) : Option (Step (Int × Str) Str) :=
  if (decide (v27 < (List.length x22 : Int))) then (ao6 x22 v27).bind fun x31 => (aM7 x31 [10]).bind fun x32 => (bAdd v28 x32).bind fun x33 => some (.cont ((IntKind.wrap .i64 (v27 + 1)),x33)) else (ai0 v28).map .done
def al3 (a : aa2) (id : Int) : Option Str :=
  if (decide (id = 2)) then ad8 (fun s => ag6 a s.1 s.2) (0,([] : Str)) else if (decide (id = 3)) then (aF8).bind fun x22 => ad8 (fun s => af4 x22 s.1 s.2) (0,([] : Str)) else ai0 ([] : Str)
def aw4 (a : aa2) (id : Int) (offset : Int) (count : Int) : Option (aa2 × Str × Int) :=
  (ay8 a).bind fun x1 => (au5 a id).bind fun x2 => if (!x2) then some (x1,[],8) else if (decide (id = 1)) then some (x1,[],10) else if ((decide (offset < 0)) || (decide (count < 0))) then some (x1,[],1) else (ar9 a id).bind fun x8 => if (decide (0 ≤ x8)) then (a02 a x8 (min count 65536)).bind fun x10 => some (x10.1,x10.2.1,x10.2.2) else (al3 a id).bind fun x11 => (cut x11 (min offset (List.length x11 : Int)) (List.length x11 : Int)).bind fun x12 => (cut x12 0 (min (min count 65536) (List.length x12 : Int))).bind fun x13 => some (x1,x13,0)
def aw5 (c : Int) : Option Bool :=
  some ((decide (c = 32)) || (decide (c = 9)))
def af9 (s_ : Str) (i : Int) (v12 : Str) : Option (Step (Int × Str) (Str × Int × Bool)) :=
  if (decide (i < (List.length s_ : Int))) then (aj4 s_ i).bind fun c15 => if (!decide ((c15.toNat : Int) = 39)) then (aj4 s_ i).bind fun c17 => (bAdd v12 [c17]).bind fun x18 => some (.cont ((IntKind.wrap .i64 (i + 1)),x18)) else (if (decide ((IntKind.wrap .i64 (i + 1)) = (List.length s_ : Int))) then some true else (aj4 s_ (IntKind.wrap .i64 (i + 1))).bind fun c20 => some (!decide ((c20.toNat : Int) = 39))).bind fun t21 => if t21 then some (.done (v12,(IntKind.wrap .i64 (i + 1)),true)) else (bAdd v12 [(39 : UInt8)]).bind fun x23 => some (.cont ((IntKind.wrap .i64 ((IntKind.wrap .i64 (i + 1)) + 1)),x23)) else some (.done ([],0,false))
def az0 (s_ : Str) : Option (Str × Int × Bool) :=
  ad8 (fun s => af9 s_ s.1 s.2) (0,([] : Str))
def strings_Index (a0 : Str) (a1 : Str) : Option Int := bj8 a0 a1
def strings_Contains (s_ : Str) (substr : Str) : Option Bool :=
  (strings_Index s_ substr).bind fun x1 => some (decide (0 ≤ x1))
def ap1 (s_ : Str) (x2 : Str) (p5 : Int) (p6 : Str) (p7 : Bool) : Option (aa0 × Int × Int) :=
  (if (decide (p5 < (List.length s_ : Int))) then (aj4 s_ p5).bind fun c9 => (aw5 (c9.toNat : Int)).bind fun x10 => some (!x10) else some false).bind fun t11 => if t11 then some ((aa0.mk [] [] false),0,2) else some ((aa0.mk x2 p6 p7),p5,0)
def aO9 (s_ : Str) : Option (aa0 × Int × Int) :=
  (ai7 s_ [32,9,61,63,39]).bind fun x1 => (cut s_ 0 x1).bind fun x2 => (cut s_ x1 (List.length s_ : Int)).bind fun x3 => (strings_HasPrefix x3 [63]).bind fun x13 => if x13 then ap1 s_ x2 (IntKind.wrap .i64 (x1 + 1)) [] true else (strings_HasPrefix x3 [61,39]).bind fun x15 => if x15 then (cut x3 2 (List.length x3 : Int)).bind fun x17 => (az0 x17).bind fun x18 => if (!x18.2.2) then some ((aa0.mk [] [] false),0,48) else ap1 s_ x2 (IntKind.wrap .i64 (x1 + (IntKind.wrap .i64 (2 + x18.2.1)))) x18.1 false else (strings_HasPrefix x3 [61]).bind fun x20 => if x20 then (ai7 x3 [32,9]).bind fun x22 => (cut x3 1 x22).bind fun x23 => (strings_Contains x23 [39]).bind fun x24 => if x24 then some ((aa0.mk [] [] false),0,2) else ap1 s_ x2 (IntKind.wrap .i64 (x1 + x22)) x23 false else some ((aa0.mk [] [] false),0,2)
def al4 (i : Int) (out : (List aa0)) (x21 : (aa0 × Int × Int)) (p23 : Int) : Option (Step (Int × (List aa0)) ((List aa0) × Int × Int)) :=
  if (!decide (p23 = 0)) then some (.done (([] : List aa0),i,p23)) else (aM8 40 out [x21.1]).bind fun x25 => some (.cont ((IntKind.wrap .i64 (i + x21.2.1)),x25))
def al5 (s_ : Str) (i : Int) (out : (List aa0)) : Option (Step (Int × (List aa0)) ((List aa0) × Int × Int)) :=
  if (decide (i < (List.length s_ : Int))) then (aj4 s_ i).bind fun c17 => (aw5 (c17.toNat : Int)).bind fun x18 => if x18 then some (.cont ((IntKind.wrap .i64 (i + 1)),out)) else (cut s_ i (List.length s_ : Int)).bind fun x20 => (aO9 x20).bind fun x21 => if (decide (x21.2.2 = 0)) then (ap0 out x21.1).bind fun x27 => al4 i out x21 x27 else al4 i out x21 x21.2.2 else some (.done (out,0,0))
def aw6 (s_ : Str) : Option ((List aa0) × Int × Int) :=
  ad8 (fun s => al5 s_ s.1 s.2) (0,([] : List aa0))
def al8 (a : aa2) (v23 : Int) (size_1 : Int) : Option (Step (Int × Int) Bool) :=
  (ao6 a.Keys v23).bind fun x36 => if ((decide (40 < (List.length x36 : Int))) || (decide (60000 < size_1))) then (ai6).bind fun x40 => some (.done x40) else some (.cont (size_1,(IntKind.wrap .i64 (v23 + 1))))
def ae6 (a : aa2) (v23 : Int) (x26 : (List aa0)) (size_1 : Int) (v31 : Int) : Option (Step (Int × Int) (Step (Int × Int) Bool)) :=
  if (decide (v31 < (List.length x26 : Int))) then (ao6 a.Keys v23).bind fun x34 => (ao6 x34 v31).bind fun x35 => some (.cont ((IntKind.wrap .i64 (size_1 + (IntKind.wrap .i64 ((IntKind.wrap .i64 (8 + (min (List.length x35.Name : Int) 70000))) + (IntKind.wrap .i64 (2 * (min (List.length x35.Value : Int) 70000))))))),(IntKind.wrap .i64 (v31 + 1)))) else (al8 a v23 size_1).map .done
def ak6 (s_ : Str) (v91 : Int) (k : Int) : Option (Step (Str × Int) Bool) :=
  (cut s_ (IntKind.wrap .i64 (k + 1)) (List.length s_ : Int)).bind fun x133 => some (.cont (x133,(IntKind.wrap .i64 (v91 + 1))))
def ae1 (s_ : Str) (v91 : Int) (k : Int) (x110 : ((List aa0) × Int × Int)) (v124 : Int) : Option (Step Int (Step (Str × Int) Bool)) :=
  if (decide (v124 < (List.length x110.1 : Int))) then (ao6 x110.1 v124).bind fun x127 => (if (decide (x127.Name = [])) then some true else (ao6 x110.1 v124).bind fun x129 => (aj4 x129.Name 0).bind fun c130 => some (decide ((c130.toNat : Int) = 33))).bind fun t131 => if t131 then some (.done (.done false)) else some (.cont (IntKind.wrap .i64 (v124 + 1))) else (ak6 s_ v91 k).map .done
def ak7 (a : aa2) (s_ : Str) (v91 : Int) (k : Int) : Option (Step (Str × Int) Bool) :=
  (if (decide (k = (List.length s_ : Int))) then some true else if (decide (k < 4)) then some true else (cut s_ 0 4).bind fun x106 => some (!decide (x106 = [107,101,121,32]))).bind fun t107 => if t107 then some (.done false) else (cut s_ 4 k).bind fun x109 => (aw6 x109).bind fun x110 => (if (!decide (x110.2.2 = 0)) then some true else (ao6 a.Keys v91).bind fun x112 => (ao9 x112).bind fun x113 => (am2 x110.1 x113).bind fun x114 => some (!x114)).bind fun t115 => if t115 then some (.done false) else ad8 (fun s => ae1 s_ v91 k x110 s) 0
def ae7 (a : aa2) (s_ : Str) (v91 : Int) (k : Int) : Option (Step Int (Step (Str × Int) Bool)) :=
  (if (decide (k < (List.length s_ : Int))) then (aj4 s_ k).bind fun c101 => some (!decide ((c101.toNat : Int) = 10)) else some false).bind fun t102 => if t102 then some (.cont (IntKind.wrap .i64 (k + 1))) else (ak7 a s_ v91 k).map .done
def ak8 (s_ : Str) : Option Bool :=
  (if (decide (s_ = [])) then (ai6).bind fun x137 => some x137 else some false).bind fun t138 => some t138
def ae8 (a : aa2) (s_ : Str) (v91 : Int) : Option (Step (Str × Int) Bool) :=
  if (decide (v91 < (List.length a.Keys : Int))) then ad8 (fun s => ae7 a s_ v91 s) 0 else (ak8 s_).map .done
def ah2 (a : aa2) : Option Bool :=
  (at5 a).bind fun x42 => if (!x42) then (ai6).bind fun x44 => some x44 else (aw4 a 2 0 65536).bind fun x45 => if (!decide (x45.2.2 = 0)) then some false else ad8 (fun s => ae8 a s.1 s.2) (x45.2.1,0)
def ae9 (a : aa2) (size : Int) (v23 : Int) : Option (Step (Int × Int) Bool) :=
  if (decide (v23 < (List.length a.Keys : Int))) then (ao6 a.Keys v23).bind fun x26 => ad8 (fun s => ae6 a v23 x26 s.1 s.2) (size,0) else (ah2 a).map .done
def an7 (a : aa2) : Option Bool :=
  if ((decide (70 < (List.length a.Keys : Int))) || (decide (40 < (List.length a.Convs : Int)))) then (ai6).bind fun x4 => some x4 else ad8 (fun s => ae9 a s.1 s.2) (0,0)
end
end Go.Proofs.YtkcnhmohphapfaaGreatDoor
