import Derived.Test.YtpnaccnofbkhiaaGreatDoorVmX
import Derived.Test.YtpnaccnofbkhiaaGreatDoorVmB
import Derived.Test.YtpnaccnofbkhiaaGreatDoorVmI
namespace Go.Proofs.YtpnaccnofbkhiaaGreatDoor
open Go.Vm
set_option autoImplicit false
set_option linter.unusedVariables false
set_option linter.unusedSimpArgs false
set_option maxRecDepth 100000
noncomputable section
abbrev Str := List UInt8
structure aa4 where
  Name : Str
  Value : Str
  Query : Bool
  deriving Inhabited
def zE1 (x : aa4) : PV := .agg [.str x.Name,.str x.Value,.bool x.Query]
structure aa2 where
  Attrs : (List aa4)
  deriving Inhabited
def zE2 (x : aa2) : PV := .agg [.sl (some 3) (List.map zE1 x.Attrs)]
def aB4 (x : (Str × Str)) : PV := .agg [.str x.1,.str x.2]
structure aa3 where
  Net : Str
  Host : Str
  Service : Str
  deriving Inhabited
def zE3 (x : aa3) : PV := .agg [.str x.Net,.str x.Host,.str x.Service]
structure aa0 where
  Id : Int
  Host : Str
  Owner : Str
  State : Int
  Local : aa3
  Remote : aa3
  Peer : Int
  Data : Str
  Backlog : (List Int)
  Opens : Int
  deriving Inhabited
def zE4 (x : aa0) : PV := .agg [.int .i64 x.Id,.str x.Host,.str x.Owner,.int .i64 x.State,.str x.Local.Net,.str x.Local.Host,.str x.Local.Service,.str x.Remote.Net,.str x.Remote.Host,.str x.Remote.Service,.int .i64 x.Peer,.str x.Data,.sl none (List.map (PV.int .i64) x.Backlog),.int .i64 x.Opens]
structure aa1 where
  Db : (List aa2)
  Next : Int
  Talks : (List aa0)
  deriving Inhabited
def zE5 (x : aa1) : PV := .agg [.sl (some 1) (List.map zE2 x.Db),.int .i64 x.Next,.sl (some 14) (List.map zE4 x.Talks)]
structure ac2 where
  id : Int
  at_ : Int
  part : Int
  deriving Inhabited
def zE6 (x : ac2) : PV := .agg [.int .i64 x.id,.int .i64 x.at_,.int .i64 x.part]
structure a34 where
  Type_ : Int
  Vers : Int
  Path : Int
  deriving Inhabited
structure aC2 where
  Type_ : Int
  Dev : Int
  Qid : a34
  Mode : Int
  Atime : Int
  Mtime : Int
  Length : Int
  Name : Str
  Uid : Str
  Gid : Str
  Muid : Str
  deriving Inhabited
def zE8 (x : aC2) : PV := .agg [.int .i64 x.Type_,.int .i64 x.Dev,.int .i64 x.Qid.Type_,.int .i64 x.Qid.Vers,.int .i64 x.Qid.Path,.int .i64 x.Mode,.int .i64 x.Atime,.int .i64 x.Mtime,.int .i64 x.Length,.str x.Name,.str x.Uid,.str x.Gid,.str x.Muid]
def ar8 (l : (List aa4)) (i : Int) : Option (Step Int Bool) :=
  if (decide (i < (List.length l : Int))) then (ad5 l i).bind fun x7 => if x7.Query then some (.done true) else some (.cont (IntKind.wrap .i64 (i + 1))) else some (.done false)
def aK4 (l : (List aa4)) : Option Bool :=
  ae5 (fun s => ar8 l s) 0
def aB5 (name : Str) : Option Bool :=
  (if (decide (0 < (List.length name : Int))) then (an9 name 0).bind fun c2 => some (decide ((c2.toNat : Int) = 33)) else some false).bind fun t3 => some t3
def ap6 (p2 : Str) (i : Int) : Option (Step Int Bool) :=
  if (decide (i < (List.length p2 : Int))) then (an9 p2 i).bind fun c14 => (if (decide (97 ≤ (c14.toNat : Int))) then (an9 p2 i).bind fun c16 => some (decide ((c16.toNat : Int) ≤ 122)) else some false).bind fun t17 => (if (!t17) then if (decide (i = 0)) then some true else (an9 p2 i).bind fun c20 => if (decide (48 ≤ (c20.toNat : Int))) then (an9 p2 i).bind fun c22 => if (decide ((c22.toNat : Int) ≤ 57)) then some false else (an9 p2 i).bind fun c24 => if (decide ((c24.toNat : Int) = 45)) then some false else (an9 p2 i).bind fun c26 => some (!(decide ((c26.toNat : Int) = 95))) else (an9 p2 i).bind fun c27 => if (decide ((c27.toNat : Int) = 45)) then some false else (an9 p2 i).bind fun c29 => some (!(decide ((c29.toNat : Int) = 95))) else some false).bind fun t30 => if t30 then some (.done false) else some (.cont (IntKind.wrap .i64 (i + 1))) else some (.done ((decide (1 ≤ (List.length p2 : Int))) && (decide ((List.length p2 : Int) ≤ 32))))
def ar9 (p2 : Str) : Option Bool :=
  ae5 (fun s => ap6 p2 s) 0
def aD7 (s_ : Str) : Option Bool :=
  (aB5 s_).bind fun x34 => if x34 then (cut s_ 1 (List.length s_ : Int)).bind fun x36 => ar9 x36 else ar9 s_
def ao0 (s_ : Str) (i : Int) : Option (Step Int Bool) :=
  if (decide (i < (List.length s_ : Int))) then (an9 s_ i).bind fun c12 => (if (decide ((c12.toNat : Int) = 0)) then some true else (an9 s_ i).bind fun c14 => if (decide ((c14.toNat : Int) = 10)) then some true else (an9 s_ i).bind fun c16 => some (decide ((c16.toNat : Int) = 13))).bind fun t17 => if t17 then some (.done false) else some (.cont (IntKind.wrap .i64 (i + 1))) else some (.done true)
def az5 (s_ : Str) : Option Bool :=
  ae5 (fun s => ao0 s_ s) 0
def ap1 (before : (List aa4)) (a : aa4) (i : Int) : Option (Step Int Int) :=
  if (decide (i < (List.length before : Int))) then (ad5 before i).bind fun x17 => if (decide (x17.Name = a.Name)) then some (.done 7) else some (.cont (IntKind.wrap .i64 (i + 1))) else some (.done 0)
def aQ1 (before : (List aa4)) (a : aa4) : Option Int :=
  if (decide (32 ≤ (List.length before : Int))) then some 22 else (aD7 a.Name).bind fun x2 => if (!x2) then some 6 else (if a.Query then if (!decide (a.Value = [])) then some true else (az5 a.Value).bind fun x6 => some (!x6) else (az5 a.Value).bind fun x7 => some (!x7)).bind fun t8 => if t8 then some 2 else if (decide (1024 < (List.length a.Value : Int))) then some 4 else ae5 (fun s => ap1 before a s) 0
def ap7 (l : (List aa4)) (i : Int) : Option (Step Int Int) :=
  if (decide (i < (List.length l : Int))) then (cut l 0 i).bind fun x9 => (ad5 l i).bind fun x10 => (aQ1 x9 x10).bind fun x11 => if (!decide (x11 = 0)) then some (.done x11) else some (.cont (IntKind.wrap .i64 (i + 1))) else some (.done 0)
def aF8 (l : (List aa4)) : Option Int :=
  ae5 (fun s => ap7 l s) 0
def az6 (s_ : Str) (out : Str) (odd : Bool) : Option Str :=
  if odd then (ay2 [39] out).bind fun x32 => (ay2 x32 [39]).bind fun x33 => some x33 else some s_
def ao1 (s_ : Str) (out : Str) (odd : Bool) (i : Int) : Option (Step (Str × Bool × Int) Str) :=
  if (decide (i < (List.length s_ : Int))) then (if odd then some true else (an9 s_ i).bind fun c20 => if (decide ((c20.toNat : Int) = 32)) then some true else (an9 s_ i).bind fun c22 => if (decide ((c22.toNat : Int) = 9)) then some true else (an9 s_ i).bind fun c24 => some (decide ((c24.toNat : Int) = 39))).bind fun t25 => (cut s_ i (IntKind.wrap .i64 (i + 1))).bind fun x26 => (ay2 out x26).bind fun x27 => (an9 s_ i).bind fun c28 => if (decide ((c28.toNat : Int) = 39)) then (ay2 x27 [39]).bind fun x30 => some (.cont (x30,t25,(IntKind.wrap .i64 (i + 1)))) else some (.cont (x27,t25,(IntKind.wrap .i64 (i + 1)))) else (az6 s_ out odd).map .done
def aF9 (s_ : Str) : Option Str :=
  ae5 (fun s => ao1 s_ s.1 s.2.1 s.2.2) ([],(decide (s_ = [])),0)
def ao2 (l : (List aa4)) (i : Int) (p20 : Str) : Option (Step (Str × Int) (Str × Int)) :=
  (ad5 l i).bind fun x21 => if x21.Query then (ad5 l i).bind fun x23 => (ay2 p20 x23.Name).bind fun x24 => (ay2 x24 [63]).bind fun x25 => some (.cont (x25,(IntKind.wrap .i64 (i + 1)))) else (ad5 l i).bind fun x26 => (ay2 p20 x26.Name).bind fun x27 => (ay2 x27 [61]).bind fun x28 => (ad5 l i).bind fun x29 => (aF9 x29.Value).bind fun x30 => (ay2 x28 x30).bind fun x31 => some (.cont (x31,(IntKind.wrap .i64 (i + 1))))
def ao3 (l : (List aa4)) (s_ : Str) (i : Int) : Option (Step (Str × Int) (Str × Int)) :=
  if (decide (i < (List.length l : Int))) then if (decide (0 < i)) then (ay2 s_ [32]).bind fun x33 => ao2 l i x33 else ao2 l i s_ else some (.done (s_,0))
def at6 (l : (List aa4)) : Option (Str × Int) :=
  (aF8 l).bind fun x1 => if (!decide (x1 = 0)) then some ([],x1) else ae5 (fun s => ao3 l s.1 s.2) ([],0)
def ah7 (l : (List aa2)) (s_ : Str) (i : Int) : Option (Step (Str × Int) (Str × Int)) :=
  if (decide (i < (List.length l : Int))) then (ad5 l i).bind fun x18 => (if (decide ((List.length x18.Attrs : Int) = 0)) then some true else (ad5 l i).bind fun x20 => (aK4 x20.Attrs).bind fun x21 => some x21).bind fun t22 => if t22 then some (.done ([],2)) else (ad5 l i).bind fun x24 => (at6 x24.Attrs).bind fun x25 => if (!decide (x25.2 = 0)) then some (.done ([],x25.2)) else (ay2 s_ x25.1).bind fun x27 => (ay2 x27 [10]).bind fun x28 => some (.cont (x28,(IntKind.wrap .i64 (i + 1)))) else some (.done (s_,0))
def ay5 (l : (List aa2)) : Option (Str × Int) :=
  if (decide (256 < (List.length l : Int))) then some ([],22) else ae5 (fun s => ah7 l s.1 s.2) ([],0)
def am2 (n : aa1) (t_ : aa0) (a : aa3) (v9 : Int) : Option (Step Int Bool) :=
  if (decide (v9 < (List.length n.Talks : Int))) then (ad5 n.Talks v9).bind fun x12 => if ((!decide (x12.Id = t_.Id)) && ((decide (x12.Host = t_.Host)) && ((decide (x12.State = 2)) && ((decide (x12.Local.Net = a.Net)) && (decide (x12.Local.Service = a.Service)))))) then some (.done true) else some (.cont (IntKind.wrap .i64 (v9 + 1))) else some (.done false)
def as0 (n : aa1) (t_ : aa0) (a : aa3) : Option Bool :=
  ae5 (fun s => am2 n t_ a s) 0
def az7 (l : (List Int)) (k : Int) (v4 : Int) : Option (Step Int Bool) :=
  if (decide (v4 < (List.length l : Int))) then (ad5 l v4).bind fun x7 => if (decide (x7 = k)) then some (.done true) else some (.cont (IntKind.wrap .i64 (v4 + 1))) else some (.done false)
def aQ2 (l : (List Int)) (k : Int) : Option Bool :=
  ae5 (fun s => az7 l k s) 0
def au8 (n : aa1) (id : Int) (k : Int) (v6 : Int) : Option (Step (Int × Int) Int) :=
  if (decide (v6 < (List.length n.Talks : Int))) then (ad5 n.Talks v6).bind fun x9 => (aQ2 x9.Backlog id).bind fun x10 => if x10 then some (.cont ((IntKind.wrap .i64 (k + 1)),(IntKind.wrap .i64 (v6 + 1)))) else some (.cont (k,(IntKind.wrap .i64 (v6 + 1)))) else some (.done k)
def aG0 (n : aa1) (id : Int) : Option Int :=
  ae5 (fun s => au8 n id s.1 s.2) (0,0)
def aG1 (n : aa1) (id : Int) (v4 : Int) : Option (Step Int Int) :=
  if (decide (v4 < (List.length n.Talks : Int))) then (ad5 n.Talks v4).bind fun x7 => if (decide (x7.Id = id)) then some (.done v4) else some (.cont (IntKind.wrap .i64 (v4 + 1))) else some (.done (-1))
def aQ3 (n : aa1) (id : Int) : Option Int :=
  ae5 (fun s => aG1 n id s) 0
def aG2 (n : aa1) (t_ : aa0) : Option Bool :=
  if (!decide (t_.State = 3)) then some (decide (t_.Peer = 0)) else (aQ3 n t_.Peer).bind fun x2 => (if (decide (0 ≤ x2)) then if (!decide (t_.Peer = t_.Id)) then (ad5 n.Talks x2).bind fun x5 => if (decide (x5.State = 3)) then (ad5 n.Talks x2).bind fun x7 => some (decide (x7.Peer = t_.Id)) else some false else some false else some false).bind fun t8 => some t8
def al1 (n : aa1) (t_ : aa0) (v20 : Int) : Option (Step Int Bool) :=
  if (decide (v20 < (List.length t_.Backlog : Int))) then (ad5 t_.Backlog v20).bind fun x23 => (aQ3 n x23).bind fun x24 => (if (decide (x24 < 0)) then some true else (cut t_.Backlog 0 v20).bind fun x26 => (ad5 t_.Backlog v20).bind fun x27 => (aQ2 x26 x27).bind fun x28 => some x28).bind fun t29 => if t29 then some (.done false) else (ad5 n.Talks x24).bind fun x31 => if ((!decide (x31.Host = t_.Host)) || ((!decide (x31.Opens = 0)) || ((!decide (x31.State = 3)) && (!decide (x31.State = 4))))) then some (.done false) else some (.cont (IntKind.wrap .i64 (v20 + 1))) else some (.done true)
def ax3 (n : aa1) (t_ : aa0) : Option Bool :=
  if ((decide (8 < (List.length t_.Backlog : Int))) || ((!decide (t_.State = 2)) && (decide (0 < (List.length t_.Backlog : Int))))) then some false else ae5 (fun s => al1 n t_ s) 0
def aG3 (n : aa1) (t_ : aa0) : Option Bool :=
  if ((decide (32 < (List.length t_.Owner : Int))) || ((decide (t_.State < 1)) || (decide (4 < t_.State)))) then some false else if ((decide (t_.Opens < 0)) || ((decide (9007199254740991 < t_.Opens)) || ((decide (8192 < (List.length t_.Data : Int))) || ((decide (0 < (List.length t_.Data : Int))) && (decide (t_.State < 3)))))) then some false else (if (decide (t_.State = 2)) then if (!decide (t_.Local.Host = t_.Host)) then some true else (as0 n t_ t_.Local).bind fun x13 => some x13 else some false).bind fun t14 => if t14 then some false else (aG0 n t_.Id).bind fun x16 => (aG2 n t_).bind fun x17 => (if x17 then (ax3 n t_).bind fun x19 => if x19 then if (decide (0 < t_.Opens)) then if (decide (x16 = 0)) then some true else if (decide (t_.Opens = 0)) then some (decide (x16 = 1)) else some false else if (decide (t_.Opens = 0)) then some (decide (x16 = 1)) else some false else some false else some false).bind fun t25 => some t25
def ao4 (n : aa1) (last : Int) (v18 : Int) : Option (Step (Int × Int) Bool) :=
  if (decide (v18 < (List.length n.Talks : Int))) then (ad5 n.Talks v18).bind fun x21 => (if (decide (x21.Id ≤ last)) then some true else (ad5 n.Talks v18).bind fun x23 => if (decide (n.Next ≤ x23.Id)) then some true else (ad5 n.Talks v18).bind fun x25 => (aG3 n x25).bind fun x26 => some (!x26)).bind fun t27 => if t27 then some (.done false) else (ad5 n.Talks v18).bind fun x29 => some (.cont (x29.Id,(IntKind.wrap .i64 (v18 + 1)))) else some (.done true)
def aq6 (n : aa1) : Option Bool :=
  (ay5 n.Db).bind fun x1 => if ((!decide (x1.2 = 0)) || ((decide (n.Next < 1)) || ((decide (1048576 < n.Next)) || (decide (64 < (List.length n.Talks : Int)))))) then some false else ae5 (fun s => ao4 n s.1 s.2) (0,0)
def aI6 (a : aa4) (a1 : Str) : Option Bool :=
  some ((!a.Query) && (decide (a.Name = a1)))
def ab5 (s_ : (List aa4)) (f : Str) (v5 : Int) : Option (Step Int Int) :=
  if (decide (v5 < (List.length s_ : Int))) then (ad5 s_ v5).bind fun x8 => (aI6 x8 f).bind fun x9 => if x9 then some (.done v5) else some (.cont (IntKind.wrap .i64 (v5 + 1))) else some (.done (-1))
def ae1 (s_ : (List aa4)) (f : Str) : Option Int :=
  ae5 (fun s => ab5 s_ f s) 0
def aK5 (l : (List aa4)) (name : Str) : Option Int :=
  (ae1 l name).bind fun x1 => some x1
def aD8 (l : (List aa4)) (name : Str) : Option (Str × Bool) :=
  (aK5 l name).bind fun x1 => if (decide (x1 < 0)) then some ([],false) else (ad5 l x1).bind fun x3 => some (x3.Value,true)
def af0 (s_ : (List Str)) (v : Str) (v4 : Int) : Option (Step Int Int) :=
  if (decide (v4 < (List.length s_ : Int))) then (ad5 s_ v4).bind fun x7 => if (decide (v = x7)) then some (.done v4) else some (.cont (IntKind.wrap .i64 (v4 + 1))) else some (.done (-1))
def ag1 (s_ : (List Str)) (v : Str) : Option Int :=
  ae5 (fun s => af0 s_ v s) 0
def ad3 (s_ : (List Str)) (v : Str) : Option Bool :=
  (ag1 s_ v).bind fun x1 => some (decide (0 ≤ x1))
def aN3 (l : (List Str)) (s_ : Str) : Option (List Str) :=
  (ad3 l s_).bind fun x1 => if x1 then some l else (aD4 16 l [s_]).bind fun x3 => some x3
def ap8 (l : (List aa2)) (name : Str) (v6 : Int) (out : (List Str)) : Option (Step (Int × (List Str)) (List Str)) :=
  if (decide (v6 < (List.length l : Int))) then (ad5 l v6).bind fun x10 => (aD8 x10.Attrs name).bind fun x11 => if x11.2 then (aN3 out x11.1).bind fun x13 => some (.cont ((IntKind.wrap .i64 (v6 + 1)),x13)) else some (.cont ((IntKind.wrap .i64 (v6 + 1)),out)) else some (.done out)
def ao5 (l : (List aa2)) (name : Str) : Option (List Str) :=
  ae5 (fun s => ap8 l name s.1 s.2) (0,([] : List Str))
def aC3 (want : Str) (hits : (List aa2)) : Option (List Str) :=
  (ao5 hits want).bind fun x18 => some x18
def ap9 (l : (List aa2)) (name : Str) (value : Str) (want : Str) (v8 : Int) (hits : (List aa2)) : Option (Step (Int × (List aa2)) (List Str)) :=
  if (decide (v8 < (List.length l : Int))) then (ad5 l v8).bind fun x12 => (aD8 x12.Attrs name).bind fun x13 => if (x13.2 && (decide (x13.1 = value))) then (aD4 24 hits [x12]).bind fun x17 => some (.cont ((IntKind.wrap .i64 (v8 + 1)),x17)) else some (.cont ((IntKind.wrap .i64 (v8 + 1)),hits)) else (aC3 want hits).map .done
def al2 (l : (List aa2)) (name : Str) (value : Str) (want : Str) : Option (List Str) :=
  ae5 (fun s => ap9 l name value want s.1 s.2) (0,([] : List aa2))
def aj8 : Option Bool := some true
def ai6 : Option (List aa2) :=
  some ([] : List aa2)
def af4 : Option (List aa2) :=
  (aD4 24 ([] : List aa2) []).bind fun x1 => some x1
def ab1 (s_ : (List aa2)) : Option (List aa2) :=
  (aD4 24 ([] : List aa2) s_).bind fun x1 => some x1
def ak2 : Option (List aa4) :=
  some ([] : List aa4)
def af9 : Option (List aa4) :=
  (aD4 40 ([] : List aa4) []).bind fun x1 => some x1
def ab8 (s_ : (List aa4)) : Option (List aa4) :=
  (aD4 40 ([] : List aa4) s_).bind fun x1 => some x1
def ak3 : Option (List aa0) :=
  some ([] : List aa0)
def ag0 : Option (List aa0) :=
  (aD4 200 ([] : List aa0) []).bind fun x1 => some x1
def ab9 (s_ : (List aa0)) : Option (List aa0) :=
  (aD4 200 ([] : List aa0) s_).bind fun x1 => some x1
def as9 : Option (List Int) :=
  some ([] : List Int)
def an0 : Option (List Int) :=
  (aD4 8 ([] : List Int) []).bind fun x1 => some x1
def ac6 (s_ : (List Int)) : Option (List Int) :=
  (aD4 8 ([] : List Int) s_).bind fun x1 => some x1
def ah1 (n : aa1) (v7 : (List aa2)) (x13 : (List aa0)) (v19 : Int) (v20 : (List aa0)) : Option (Step (Int × (List aa0)) aa1) :=
  if (decide (v19 < (List.length x13 : Int))) then (ad5 v20 v19).bind fun x23 => (ac6 x23.Backlog).bind fun x24 => (ad5 v20 v19).bind fun x25 => some (.cont ((IntKind.wrap .i64 (v19 + 1)),(List.set v20 (Int.toNat v19) {x25 with Backlog := x24}))) else if (decide (List.length v20 ≤ Int.toNat v19)) then some (.done (aa1.mk v7 n.Next v20)) else none
def aq2 (n : aa1) (v7 : (List aa2)) : Option aa1 :=
  (ab9 n.Talks).bind fun x13 => ae5 (fun s => ah1 n v7 x13 s.1 s.2) (0,x13)
def ai0 (n : aa1) (x1 : (List aa2)) (v6 : Int) (v7 : (List aa2)) : Option (Step (Int × (List aa2)) aa1) :=
  if (decide (v6 < (List.length x1 : Int))) then (ad5 v7 v6).bind fun x10 => (ab8 x10.Attrs).bind fun x11 => (ad5 v7 v6).bind fun x12 => some (.cont ((IntKind.wrap .i64 (v6 + 1)),(List.set v7 (Int.toNat v6) (aa2.mk x11)))) else (aq2 n v7).map .done
def af7 (n : aa1) : Option aa1 :=
  (ab1 n.Db).bind fun x1 => ae5 (fun s => ai0 n x1 s.1 s.2) (0,x1)
def aI7 (t_ : aa0) (a1 : Int) : Option Bool :=
  some (decide (t_.Id = a1))
def ab6 (s_ : (List aa0)) (f : Int) (v5 : Int) : Option (Step Int Int) :=
  if (decide (v5 < (List.length s_ : Int))) then (ad5 s_ v5).bind fun x8 => (aI7 x8 f).bind fun x9 => if x9 then some (.done v5) else some (.cont (IntKind.wrap .i64 (v5 + 1))) else some (.done (-1))
def ae2 (s_ : (List aa0)) (f : Int) : Option Int :=
  ae5 (fun s => ab6 s_ f s) 0
def af6 (n : aa1) (id : Int) : Option Int :=
  (ae2 n.Talks id).bind fun x1 => some x1
def ao6 (n : aa1) (host : Str) (id : Int) : Option (ac2 × Bool) :=
  if ((decide (id = 1)) || (decide (id = 3))) then some ((ac2.mk id (-1) 0),true) else if ((decide (id < 16)) || (decide (6 < (Int.tmod id 16)))) then some ((ac2.mk 0 0 0),false) else (af6 n (IntKind.wrap .i64 (Int.tdiv id 16))).bind fun x7 => (if (decide (0 ≤ x7)) then (ad5 n.Talks x7).bind fun x9 => some (decide (x9.Host = host)) else some false).bind fun t10 => some ((ac2.mk id x7 (Int.tmod id 16)),t10)
def aK6 (mode : Int) (bit : Int) : Option Bool :=
  (if (decide (0 ≤ mode)) then (b84 .i64 mode bit).bind fun x2 => some (decide ((Int.tmod x2 2) = 1)) else some false).bind fun t3 => some t3
def av6 (mode : Int) (p4 : Int) : Option (Int × Int) :=
  if ((decide (p4 < 0)) || (decide (3 < p4))) then some (0,12) else (ad5 [4,2,6,1] p4).bind fun x8 => (aK6 mode 16).bind fun x9 => if x9 then some ((IntKind.wrap .i64 ((BitVec.ofInt (IntKind.bits .i64) x8 ||| (BitVec.ofInt (IntKind.bits .i64) 2)).toNat : Nat)),0) else some (x8,0)
def aB6 (mode : Int) (p2 : Int) : Option (Int × Int) :=
  (aK6 mode 64).bind fun x11 => if x11 then av6 mode (IntKind.wrap .i64 (p2 - 64)) else av6 mode p2
def aD9 (mode : Int) : Option (Int × Int) :=
  (aK6 mode 16).bind fun x13 => if x13 then aB6 mode (IntKind.wrap .i64 (mode - 16)) else aB6 mode mode
def ac7 (f : ac2) : Option Bool :=
  some ((decide (f.id = 1)) || ((decide (0 ≤ f.at_)) && (decide (f.part = 0))))
def ai1 (f : ac2) : Option Int :=
  (ac7 f).bind fun x1 => if x1 then some 2147484013 else if (decide (f.id = 3)) then some 438 else if (decide (f.part ≤ 3)) then some 384 else some 292
def aI8 (base : Int) : Option Bool :=
  some ((decide (base = 8)) || ((decide (base = 10)) || (decide (base = 16))))
def at7 (a0 : Int) (a1 : Int) : Option Str := aK3 a0 a1
def aK7 (n : Int) (base : Int) : Option Str :=
  (aI8 base).bind fun x1 => if (!x1) then some [] else (at7 n base).bind fun x3 => some x3
def as1 (f : ac2) : Option Str :=
  if (decide (f.id = 1)) then some [47] else if (decide (f.id = 3)) then some [99,108,111,110,101] else (aK7 (IntKind.wrap .i64 (Int.tdiv f.id 16)) 10).bind fun x3 => (ad5 [x3,[99,116,108],[100,97,116,97],[108,105,115,116,101,110],[115,116,97,116,117,115],[108,111,99,97,108],[114,101,109,111,116,101]] f.part).bind fun x4 => some x4
def au9 (n : aa1) (f : ac2) (x1 : Int) (x2 : Str) (p4 : Int) : Option aC2 :=
  if (decide (0 ≤ f.at_)) then (ad5 n.Talks f.at_).bind fun x6 => some (aC2.mk 7 0 (a34.mk p4 0 f.id) x1 0 0 0 x2 x6.Owner x6.Owner []) else some (aC2.mk 7 0 (a34.mk p4 0 f.id) x1 0 0 0 x2 [] [] [])
def at8 (n : aa1) (f : ac2) : Option aC2 :=
  (ai1 f).bind fun x1 => (as1 f).bind fun x2 => (ac7 f).bind fun x7 => if x7 then au9 n f x1 x2 128 else au9 n f x1 x2 0
def aj0 (mode : Int) (x1 : (Int × Int)) (p9 : Int) : Option Int :=
  if ((decide (64 ≤ mode)) || (!decide ((IntKind.wrap .i64 ((BitVec.ofInt (IntKind.bits .i64) x1.1 &&& ~~~ (BitVec.ofInt (IntKind.bits .i64) p9)).toNat : Nat)) = 0))) then some 11 else some 0
def al3 (n : aa1) (f : ac2) (user : Str) (mode : Int) : Option Int :=
  (aD9 mode).bind fun x1 => if (!decide (x1.2 = 0)) then some x1.2 else (ac7 f).bind fun x3 => if (x3 && (!decide (mode = 0))) then some 10 else (ai1 f).bind fun x7 => (at8 n f).bind fun x13 => if (decide (user = x13.Uid)) then (ai1 f).bind fun x15 => aj0 mode x1 (Int.tmod (IntKind.wrap .i64 (Int.tdiv x15 64)) 8) else aj0 mode x1 (Int.tmod x7 8)
def ag5 (n : aa1) (host : Str) (user : Str) (id : Int) (mode : Int) : Option (aa1 × Int × Bool × Int) :=
  (af7 n).bind fun x1 => (ao6 n host id).bind fun x2 => if (!x2.2) then some (x1,0,false,8) else (al3 n x2.1 user mode).bind fun x4 => if (!decide (x4 = 0)) then some (x1,0,false,x4) else (ac7 x2.1).bind fun x6 => if x6 then some (x1,id,false,0) else if (decide (x2.1.id = 3)) then if (decide (32 < (List.length user : Int))) then some (x1,0,false,25) else if ((decide (64 ≤ (List.length n.Talks : Int))) || (decide (1048575 < n.Next))) then some (x1,0,false,22) else (aD4 200 x1.Talks [(aa0.mk n.Next host user 1 (aa3.mk [] [] []) (aa3.mk [] [] []) 0 [] ([] : List Int) 1)]).bind fun x13 => some ((aa1.mk x1.Db (IntKind.wrap .i64 (x1.Next + 1)) x13),(IntKind.wrap .i64 ((IntKind.wrap .i64 (16 * n.Next)) + 1)),false,0) else if (decide (x2.1.part = 3)) then (ad5 n.Talks x2.1.at_).bind fun x15 => if (!decide (x15.State = 2)) then some (x1,0,false,43) else if (decide ((List.length x15.Backlog : Int) = 0)) then some (x1,0,true,0) else (ad5 x15.Backlog 0).bind fun x18 => (cut x15.Backlog 1 (List.length x15.Backlog : Int)).bind fun x19 => (ac6 x19).bind fun x20 => (ad5 x1.Talks x2.1.at_).bind fun x21 => (af6 {x1 with Talks := List.set x1.Talks (Int.toNat x2.1.at_) {x21 with Backlog := x20}} x18).bind fun x22 => (ad5 (List.set x1.Talks (Int.toNat x2.1.at_) {x21 with Backlog := x20}) x22).bind fun x23 => some ({x1 with Talks := List.set (List.set x1.Talks (Int.toNat x2.1.at_) {x21 with Backlog := x20}) (Int.toNat x22) {x23 with Opens := 1}},(IntKind.wrap .i64 ((IntKind.wrap .i64 (16 * x18)) + 1)),false,0) else (ad5 n.Talks x2.1.at_).bind fun x24 => if (decide (x24.Opens = 0)) then some (x1,0,false,43) else (ad5 n.Talks x2.1.at_).bind fun x26 => if (decide (9007199254740991 ≤ x26.Opens)) then some (x1,0,false,22) else (ad5 x1.Talks x2.1.at_).bind fun x28 => (ad5 x1.Talks x2.1.at_).bind fun x29 => some ({x1 with Talks := List.set x1.Talks (Int.toNat x2.1.at_) {x29 with Opens := IntKind.wrap .i64 (x28.Opens + 1)}},id,false,0)
def aj9 (s_ : Str) (from_ : Int) (v24 : Int) (out : (List Str)) (p30 : Bool) : Option (Step (Int × Int × (List Str)) (List Str)) :=
  if p30 then if (decide (0 ≤ from_)) then (cut s_ from_ v24).bind fun x33 => (aD4 16 out [x33]).bind fun x34 => some (.cont ((-1),(IntKind.wrap .i64 (v24 + 1)),x34)) else some (.cont ((-1),(IntKind.wrap .i64 (v24 + 1)),out)) else if (decide (from_ < 0)) then some (.cont (v24,(IntKind.wrap .i64 (v24 + 1)),out)) else some (.cont (from_,(IntKind.wrap .i64 (v24 + 1)),out))
def aC4 (s_ : Str) (from_ : Int) (out : (List Str)) : Option (List Str) :=
  if (decide (0 ≤ from_)) then (cut s_ from_ (List.length s_ : Int)).bind fun x40 => (aD4 16 out [x40]).bind fun x41 => some x41 else some out
def ag7 (s_ : Str) (from_ : Int) (v24 : Int) (out : (List Str)) : Option (Step (Int × Int × (List Str)) (List Str)) :=
  if (decide (v24 < (List.length s_ : Int))) then (an9 s_ v24).bind fun c28 => if (decide ((c28.toNat : Int) = 32)) then aj9 s_ from_ v24 out (decide ((c28.toNat : Int) = 32)) else if (decide ((c28.toNat : Int) = 9)) then aj9 s_ from_ v24 out (decide ((c28.toNat : Int) = 9)) else if (decide ((c28.toNat : Int) = 10)) then aj9 s_ from_ v24 out (decide ((c28.toNat : Int) = 10)) else aj9 s_ from_ v24 out (decide ((c28.toNat : Int) = 13)) else (aC4 s_ from_ out).map .done
def at9 (s_ : Str) : Option (List Str) :=
  ae5 (fun s => ag7 s_ s.1 s.2.1 s.2.2) ((-1),0,([] : List Str))
def al7 (s_ : Str) : Option Int :=
  none
def ai2 (s_ : Str) : Option (Int × Int) :=
  if (decide ((List.length s_ : Int) < 1)) then some (65533,0) else (an9 s_ 0).bind fun c2 => none
def al4 (s_ : Str) : Option (Int × Int) :=
  (if (!decide (s_ = [])) then (an9 s_ 0).bind fun c2 => some (decide ((c2.toNat : Int) < 128)) else some false).bind fun t3 => if t3 then (an9 s_ 0).bind fun c5 => some ((IntKind.wrap .i32 (c5.toNat : Int)),1) else (ai2 s_).bind fun x6 => some (x6.1,x6.2)
def az8 (p3 : Int) (s__1 : Str) (a : (List Str)) : Option (List Str) :=
  if (decide (0 < p3)) then (ad5 a (IntKind.wrap .i64 (p3 - 1))).bind fun x20 => some (List.set a (Int.toNat (IntKind.wrap .i64 (p3 - 1))) s__1) else some a
def az9 (p3 : Int) (s__1 : Str) (i : Int) (a : (List Str)) : Option (Step (Str × Int × (List Str)) (List Str)) :=
  if (decide (i < (IntKind.wrap .i64 (p3 - 1)))) then (al4 s__1).bind fun x15 => (cut s__1 0 x15.2).bind fun x16 => (ad5 a i).bind fun x17 => (cut s__1 x15.2 (List.length s__1 : Int)).bind fun x18 => some (.cont (x18,(IntKind.wrap .i64 (i + 1)),(List.set a (Int.toNat i) x16))) else (az8 p3 s__1 a).map .done
def as2 (s_ : Str) (p3 : Int) : Option (List Str) :=
  (mkC 16 ([] : Str) p3 p3).bind fun x4 => ae5 (fun s => az9 p3 s.1 s.2.1 s.2.2) (s_,0,x4)
def aI9 (s_ : Str) (n : Int) : Option (List Str) :=
  (al7 s_).bind fun x1 => if ((decide (n < 0)) || (decide (x1 < n))) then as2 s_ x1 else as2 s_ n
def strings_Count (a0 : Str) (a1 : Str) : Option Int := bO1 a0 a1
def strings_Index (a0 : Str) (a1 : Str) : Option Int := bO0 a0 a1
def am3 (p8 : Str) (p9 : Int) (p10 : (List Str)) : Option (List Str) :=
  (ad5 p10 p9).bind fun x11 => (cut (List.set p10 (Int.toNat p9) p8) 0 (IntKind.wrap .i64 (p9 + 1))).bind fun x12 => some x12
def ah3 (s_ : Str) (sep : Str) (sepSave : Int) (p5 : Int) (s__2 : Str) (i_1 : Int) (a_1 : (List Str)) : Option (Step (Str × Int × (List Str)) (List Str)) :=
  if (decide (i_1 < (IntKind.wrap .i64 ((min p5 (IntKind.wrap .i64 ((List.length s_ : Int) + 1))) - 1)))) then (strings_Index s__2 sep).bind fun x24 => if (decide (x24 < 0)) then (am3 s__2 i_1 a_1).map .done else (cut s__2 0 (IntKind.wrap .i64 (x24 + sepSave))).bind fun x26 => (ad5 a_1 i_1).bind fun x27 => (cut s__2 (IntKind.wrap .i64 (x24 + (List.length sep : Int))) (List.length s__2 : Int)).bind fun x28 => some (.cont (x28,(IntKind.wrap .i64 (i_1 + 1)),(List.set a_1 (Int.toNat i_1) x26))) else (am3 s__2 i_1 a_1).map .done
def am4 (s_ : Str) (sep : Str) (sepSave : Int) (p5 : Int) : Option (List Str) :=
  (mkC 16 ([] : Str) (min p5 (IntKind.wrap .i64 ((List.length s_ : Int) + 1))) (min p5 (IntKind.wrap .i64 ((List.length s_ : Int) + 1)))).bind fun x6 => ae5 (fun s => ah3 s_ sep sepSave p5 s.1 s.2.1 s.2.2) (s_,0,x6)
def aq3 (s_ : Str) (sep : Str) (sepSave : Int) (n : Int) : Option (List Str) :=
  if (decide (n = 0)) then some ([] : List Str) else if (decide (sep = [])) then (aI9 s_ n).bind fun x3 => some x3 else if (decide (n < 0)) then (strings_Count s_ sep).bind fun x30 => am4 s_ sep sepSave (IntKind.wrap .i64 (x30 + 1)) else am4 s_ sep sepSave n
def ax4 (s_ : Str) (sep : Str) : Option (List Str) :=
  (aq3 s_ sep 0 (-1)).bind fun x1 => some x1
def stringslite_IndexByte (a0 : Str) (a1 : Int) : Option Int := aK1 a0 a1
def strings_IndexByte (s_ : Str) (c : Int) : Option Int :=
  (stringslite_IndexByte s_ c).bind fun x1 => some x1
def as3 (s_ : Str) (more : Str) (v18 : Int) : Option (Step Int Bool) :=
  if (decide (v18 < (List.length s_ : Int))) then (an9 s_ v18).bind fun c21 => (if (decide ((c21.toNat : Int) < 97)) then if (decide ((c21.toNat : Int) < 48)) then (strings_IndexByte more (c21.toNat : Int)).bind fun x24 => some (decide (x24 < 0)) else if (decide (57 < (c21.toNat : Int))) then (strings_IndexByte more (c21.toNat : Int)).bind fun x26 => some (decide (x26 < 0)) else some false else if (decide (122 < (c21.toNat : Int))) then if (decide ((c21.toNat : Int) < 48)) then (strings_IndexByte more (c21.toNat : Int)).bind fun x29 => some (decide (x29 < 0)) else if (decide (57 < (c21.toNat : Int))) then (strings_IndexByte more (c21.toNat : Int)).bind fun x31 => some (decide (x31 < 0)) else some false else some false).bind fun t32 => if t32 then some (.done false) else some (.cont (IntKind.wrap .i64 (v18 + 1))) else some (.done true)
def aE0 (s_ : Str) (most : Int) (more : Str) : Option Bool :=
  if ((decide (s_ = [])) || (decide (most < (List.length s_ : Int)))) then some false else ae5 (fun s => as3 s_ more s) 0
def aE1 (s_ : Str) : Option Bool :=
  (aE0 s_ 32 [45,95]).bind fun x1 => (if x1 then (an9 s_ 0).bind fun c3 => if (decide (97 ≤ (c3.toNat : Int))) then (an9 s_ 0).bind fun c5 => some (decide ((c5.toNat : Int) ≤ 122)) else some false else some false).bind fun t6 => some t6
def au0 (s_ : Str) : Option Bool :=
  (aE0 s_ 64 [45,95,46]).bind fun x1 => some x1
def au1 (a : aa3) : Option Bool :=
  (if (decide (a.Service = [])) then some true else (aE0 a.Service 32 [45,95]).bind fun x2 => some x2).bind fun t3 => (aE1 a.Net).bind fun x4 => (if x4 then if (decide (a.Host = [42])) then some t3 else (au0 a.Host).bind fun x7 => if x7 then some t3 else some false else some false).bind fun t9 => some t9
def as4 (x1 : (List Str)) (x5 : Str) (x6 : Str) (p8 : Str) : Option (aa3 × Int) :=
  (au1 (aa3.mk x5 x6 p8)).bind fun x9 => if ((!x9) || ((decide ((List.length x1 : Int) = 3)) && (decide (p8 = [])))) then some ((aa3.mk [] [] []),36) else some ((aa3.mk x5 x6 p8),0)
def au2 (s_ : Str) : Option (aa3 × Int) :=
  (ax4 s_ [33]).bind fun x1 => if ((decide ((List.length x1 : Int) < 2)) || (decide (3 < (List.length x1 : Int)))) then some ((aa3.mk [] [] []),36) else (ad5 x1 0).bind fun x5 => (ad5 x1 1).bind fun x6 => if (decide ((List.length x1 : Int) = 3)) then (ad5 x1 2).bind fun x15 => as4 x1 x5 x6 x15 else as4 x1 x5 x6 []
def ap2 (name : Str) (x1 : (List Str)) (v11 : Int) (out : (List Str)) : Option (Step (Int × (List Str)) (List Str)) :=
  if (decide (v11 < (List.length x1 : Int))) then (ad5 x1 v11).bind fun x15 => (aE1 x15).bind fun x16 => if (x16 && ((!decide (x15 = [110,101,116])) && ((decide (name = [110,101,116])) || (decide (name = x15))))) then (aD4 16 out [x15]).bind fun x22 => some (.cont ((IntKind.wrap .i64 (v11 + 1)),x22)) else some (.cont ((IntKind.wrap .i64 (v11 + 1)),out)) else some (.done out)
def ax5 (l : (List aa2)) (name : Str) : Option (List Str) :=
  (ao5 l [110,101,116]).bind fun x1 => ae5 (fun s => ap2 name x1 s.1 s.2) (0,([] : List Str))
def av7 (s_ : Str) : Option Bool :=
  (au0 s_).bind fun x1 => some (!x1)
def ac3 (s_ : (List Str)) (v5 : Int) : Option (Step Int Int) :=
  if (decide (v5 < (List.length s_ : Int))) then (ad5 s_ v5).bind fun x8 => (av7 x8).bind fun x9 => if x9 then some (.done v5) else some (.cont (IntKind.wrap .i64 (v5 + 1))) else some (.done (-1))
def ac9 (s_ : (List Str)) : Option Int :=
  ae5 (fun s => ac3 s_ s) 0
def ad4 (i : Int) (s__1 : (List Str)) : Option (List Str) :=
  (cut s__1 0 i).bind fun x17 => some x17
def aa7 (i : Int) (j : Int) (s__1 : (List Str)) : Option (Step (Int × Int × (List Str)) (List Str)) :=
  if (decide (j < (List.length s__1 : Int))) then (ad5 s__1 j).bind fun x13 => (av7 x13).bind fun x14 => if (!x14) then (ad5 s__1 i).bind fun x16 => some (.cont ((IntKind.wrap .i64 (i + 1)),(IntKind.wrap .i64 (j + 1)),(List.set s__1 (Int.toNat i) x13))) else some (.cont (i,(IntKind.wrap .i64 (j + 1)),s__1)) else (ad4 i s__1).map .done
def ac4 (s_ : (List Str)) : Option (List Str) :=
  (ac9 s_).bind fun x1 => if (decide (x1 = (-1))) then some s_ else ae5 (fun s => aa7 s.1 s.2.1 s.2.2) (x1,(IntKind.wrap .i64 (x1 + 1)),s_)
def aK8 (l : (List aa2)) (host : Str) (name : Str) : Option (List Str) :=
  if (decide (name = [42])) then some [name] else (if (decide (name = [115,101,108,102])) then (au0 host).bind fun x3 => some x3 else some false).bind fun t4 => if t4 then some [host] else if (decide (name = [115,101,108,102])) then some ([] : List Str) else (ao5 l [104,111,115,116]).bind fun x7 => (ad3 x7 name).bind fun x8 => if x8 then some [name] else (al2 l [97,108,105,97,115] name [104,111,115,116]).bind fun x10 => (ac4 x10).bind fun x11 => some x11
def aA0 (c : Int) : Option Int :=
  if ((decide (48 ≤ c)) && (decide (c ≤ 57))) then some (IntKind.wrap .i64 (IntKind.wrap .u8 (c - 48))) else if ((decide (97 ≤ c)) && (decide (c ≤ 102))) then some (IntKind.wrap .i64 ((IntKind.wrap .i64 (IntKind.wrap .u8 (c - 97))) + 10)) else some 16
def ap3 (s_ : Str) (base : Int) (most : Int) (n : Int) (v19 : Int) : Option (Step (Int × Int) (Int × Int)) :=
  if (decide (v19 < (List.length s_ : Int))) then (an9 s_ v19).bind fun c22 => (aA0 (c22.toNat : Int)).bind fun x23 => (if (decide (base ≤ x23)) then some true else (b84 .i64 (IntKind.wrap .i64 (most - x23)) base).bind fun x25 => if (decide (x25 < n)) then some true else some (decide (most < x23))).bind fun t27 => if t27 then some (.done (0,5)) else some (.cont ((IntKind.wrap .i64 ((IntKind.wrap .i64 (n * base)) + x23)),(IntKind.wrap .i64 (v19 + 1)))) else some (.done (n,0))
def aQ4 (s_ : Str) (base : Int) (most : Int) : Option (Int × Int) :=
  (aI8 base).bind fun x1 => if ((!x1) || (decide (most < 0))) then some (0,1) else (if (decide (s_ = [])) then some true else if (decide (1 < (List.length s_ : Int))) then (an9 s_ 0).bind fun c7 => some (decide ((c7.toNat : Int) = 48)) else some false).bind fun t8 => if t8 then some (0,5) else ae5 (fun s => ap3 s_ base most s.1 s.2) (0,0)
def aA1 (s_ : Str) : Option Bool :=
  (aQ4 s_ 10 65535).bind fun x1 => some ((decide (x1.2 = 0)) && (decide (0 < x1.1)))
def ap4 (x5 : (List Str)) (v10 : Int) : Option (Step Int Str) :=
  if (decide (v10 < (List.length x5 : Int))) then (ad5 x5 v10).bind fun x13 => (aA1 x13).bind fun x14 => if x14 then some (.done x13) else some (.cont (IntKind.wrap .i64 (v10 + 1))) else some (.done [])
def av8 (l : (List aa2)) (network : Str) (p2 : Str) : Option Str :=
  (aA1 p2).bind fun x3 => if x3 then some p2 else (al2 l [115,101,114,118,105,99,101] p2 network).bind fun x5 => ae5 (fun s => ap4 x5 s) 0
def aQ5 (l : (List aa2)) (network : Str) (service : Str) : Option Str :=
  if (decide (service = [])) then (al2 l [110,101,116] network [115,101,114,118,105,99,101]).bind fun x17 => if (decide ((List.length x17 : Int) = 0)) then some [] else (ad5 x17 0).bind fun x19 => av8 l network x19 else av8 l network service
def aj1 (x5 : (List Str)) (v20 : Int) (x24 : Str) (x25 : Str) (v30 : Int) (out_1 : (List aa3)) : Option (Step (Int × (List aa3)) (Step (Int × (List aa3)) ((List aa3) × Int))) :=
  if (decide (v30 < (List.length x5 : Int))) then (ad5 x5 v30).bind fun x34 => (aD4 48 out_1 [(aa3.mk x24 x34 x25)]).bind fun x35 => some (.cont ((IntKind.wrap .i64 (v30 + 1)),x35)) else some (.done (.cont ((IntKind.wrap .i64 (v20 + 1)),out_1)))
def as5 (out : (List aa3)) : Option ((List aa3) × Int) :=
  if (decide ((List.length out : Int) = 0)) then some (([] : List aa3),39) else some (out,0)
def aj2 (l : (List aa2)) (a : aa3) (x3 : (List Str)) (x5 : (List Str)) (v20 : Int) (out : (List aa3)) : Option (Step (Int × (List aa3)) ((List aa3) × Int)) :=
  if (decide (v20 < (List.length x3 : Int))) then (ad5 x3 v20).bind fun x24 => (aQ5 l x24 a.Service).bind fun x25 => if (decide (x25 = [])) then some (.cont ((IntKind.wrap .i64 (v20 + 1)),out)) else ae5 (fun s => aj1 x5 v20 x24 x25 s.1 s.2) (0,out) else (as5 out).map .done
def ak0 (l : (List aa2)) (host : Str) (a : aa3) : Option ((List aa3) × Int) :=
  (au1 a).bind fun x1 => if (!x1) then some (([] : List aa3),36) else (ax5 l a.Net).bind fun x3 => if (decide ((List.length x3 : Int) = 0)) then some (([] : List aa3),37) else (aK8 l host a.Host).bind fun x5 => if (decide ((List.length x5 : Int) = 0)) then some (([] : List aa3),38) else ae5 (fun s => aj2 l a x3 x5 s.1 s.2) (0,([] : List aa3))
def aw8 (x_ : aa0) (a1 : aa0) : Option Bool :=
  some (!decide (x_.Id = a1.Id))
def aj3 (t_ : aa0) (a1 : Str) (a2 : aa3) (a3 : aa0) : Option Bool :=
  (if (decide (t_.Host = a1)) then if (decide (t_.State = 2)) then if (decide (t_.Local.Net = a2.Net)) then if (decide (t_.Local.Service = a2.Service)) then (aw8 t_ a3).bind fun x5 => some x5 else some false else some false else some false else some false).bind fun t6 => some t6
def aa9 (s_ : (List aa0)) (f : Str) (f' : aa3) (f'' : aa0) (v5 : Int) : Option (Step Int Int) :=
  if (decide (v5 < (List.length s_ : Int))) then (ad5 s_ v5).bind fun x8 => (aj3 x8 f f' f'').bind fun x9 => if x9 then some (.done v5) else some (.cont (IntKind.wrap .i64 (v5 + 1))) else some (.done (-1))
def ad0 (s_ : (List aa0)) (f : Str) (f' : aa3) (f'' : aa0) : Option Int :=
  ae5 (fun s => aa9 s_ f f' f'' s) 0
def ai3 (n : aa1) (host : Str) (a : aa3) (ok : aa0) : Option Int :=
  (ad0 n.Talks host a ok).bind fun x1 => some x1
def au3 (n : aa1) (i : Int) (x1 : aa0) (p6 : aa3) : Option (aa1 × Int) :=
  (ak0 n.Db x1.Host p6).bind fun x7 => if (!decide (x7.2 = 0)) then some (n,x7.2) else (if (decide ((List.length x7.1 : Int) = 0)) then some true else (ad5 x7.1 0).bind fun x10 => some (!decide (x10.Host = x1.Host))).bind fun t11 => if t11 then some (n,38) else (ad5 x7.1 0).bind fun x13 => (ai3 n x1.Host x13 x1).bind fun x14 => if (decide (0 ≤ x14)) then some (n,41) else (ad5 n.Talks i).bind fun x16 => none
def aM1 (n : aa1) (i : Int) (address : Str) : Option (aa1 × Int) :=
  (ad5 n.Talks i).bind fun x1 => if (!decide (x1.State = 1)) then some (n,43) else (au2 address).bind fun x3 => if (!decide (x3.2 = 0)) then some (n,x3.2) else if (decide (x3.1.Host = [42])) then au3 n i x1 {x3.1 with Host := [115,101,108,102]} else au3 n i x1 x3.1
def ag6 (n : aa1) (i : Int) (x1 : aa0) (p6 : aa3) : Option (aa1 × Int) :=
  (ak0 n.Db x1.Host p6).bind fun x7 => if (!decide (x7.2 = 0)) then some (n,x7.2) else (if (decide ((List.length x7.1 : Int) = 0)) then some true else (ad5 x7.1 0).bind fun x10 => some (!decide (x10.Host = x1.Host))).bind fun t11 => if t11 then some (n,38) else (ad5 x7.1 0).bind fun x13 => (ai3 n x1.Host x13 x1).bind fun x14 => if (decide (0 ≤ x14)) then some (n,41) else (ad5 n.Talks i).bind fun x16 => (ad5 x7.1 0).bind fun x17 => (ad5 (List.set n.Talks (Int.toNat i) {x16 with State := 2}) i).bind fun x18 => some ({n with Talks := List.set (List.set n.Talks (Int.toNat i) {x16 with State := 2}) (Int.toNat i) {x18 with Local := x17}},0)
def aq4 (n : aa1) (i : Int) (address : Str) : Option (aa1 × Int) :=
  (ad5 n.Talks i).bind fun x1 => if (!decide (x1.State = 1)) then some (n,43) else (au2 address).bind fun x3 => if (!decide (x3.2 = 0)) then some (n,x3.2) else if (decide (x3.1.Host = [42])) then ag6 n i x1 {x3.1 with Host := [115,101,108,102]} else ag6 n i x1 x3.1
def aA2 (x_ : aa0) : Option Bool :=
  some (decide ((List.length x_.Backlog : Int) < 8))
def aj4 (t_ : aa0) (a1 : Str) (a2 : aa3) : Option Bool :=
  (if (decide (t_.Host = a1)) then if (decide (t_.State = 2)) then if (decide (t_.Local.Net = a2.Net)) then if (decide (t_.Local.Service = a2.Service)) then (aA2 t_).bind fun x5 => some x5 else some false else some false else some false else some false).bind fun t6 => some t6
def ab0 (s_ : (List aa0)) (f : Str) (f' : aa3) (v5 : Int) : Option (Step Int Int) :=
  if (decide (v5 < (List.length s_ : Int))) then (ad5 s_ v5).bind fun x8 => (aj4 x8 f f').bind fun x9 => if x9 then some (.done v5) else some (.cont (IntKind.wrap .i64 (v5 + 1))) else some (.done (-1))
def ad1 (s_ : (List aa0)) (f : Str) (f' : aa3) : Option Int :=
  ae5 (fun s => ab0 s_ f f' s) 0
def ai4 (n : aa1) (host : Str) (a : aa3) : Option Int :=
  (ad1 n.Talks host a).bind fun x1 => some x1
def aE2 (n : aa1) (x5 : ((List aa3) × Int)) (v16 : Int) : Option (Step Int (aa1 × Int)) :=
  if (decide (v16 < (List.length x5.1 : Int))) then (ad5 x5.1 v16).bind fun x19 => (ai4 n x19.Host x19).bind fun x20 => if (decide (x20 < 0)) then some (.cont (IntKind.wrap .i64 (v16 + 1))) else (ad5 n.Talks x20).bind fun x22 => (ad5 n.Talks x20).bind fun x23 => none else some (.done (n,40))
def bf1 (n : aa1) (i : Int) (address : Str) : Option (aa1 × Int) :=
  (ad5 n.Talks i).bind fun x1 => if (!decide (x1.State = 1)) then some (n,43) else (au2 address).bind fun x3 => if (!decide (x3.2 = 0)) then some (n,x3.2) else (ak0 n.Db x1.Host x3.1).bind fun x5 => if (!decide (x5.2 = 0)) then some (n,x5.2) else if ((decide (64 ≤ (List.length n.Talks : Int))) || (decide (1048575 < n.Next))) then some (n,22) else ae5 (fun s => aE2 n x5 s) 0
def ag3 (n : aa1) (i : Int) (x1 : aa0) (x5 : ((List aa3) × Int)) (v21 : Int) : Option (Step Int (aa1 × Int)) :=
  if (decide (v21 < (List.length x5.1 : Int))) then (ad5 x5.1 v21).bind fun x24 => (ai4 n x24.Host x24).bind fun x25 => if (decide (x25 < 0)) then some (.cont (IntKind.wrap .i64 (v21 + 1))) else (ad5 n.Talks x25).bind fun x27 => (ad5 n.Talks x25).bind fun x28 => (aD4 8 x28.Backlog [n.Next]).bind fun x29 => (ad5 n.Talks x25).bind fun x30 => (aK7 (IntKind.wrap .i64 (32768 + x1.Id)) 10).bind fun x31 => (ad5 (List.set n.Talks (Int.toNat x25) {x30 with Backlog := x29}) i).bind fun x32 => (aD4 200 (List.set (List.set n.Talks (Int.toNat x25) {x30 with Backlog := x29}) (Int.toNat i) {x1 with State := 3,Local := aa3.mk x24.Net x1.Host x31,Remote := x24,Peer := n.Next}) [(aa0.mk n.Next x27.Host x27.Owner 3 x27.Local (aa3.mk x24.Net x1.Host x31) x1.Id [] ([] : List Int) 0)]).bind fun x33 => some (.done ((aa1.mk n.Db (IntKind.wrap .i64 (n.Next + 1)) x33),0)) else some (.done (n,40))
def an3 (n : aa1) (i : Int) (address : Str) : Option (aa1 × Int) :=
  (ad5 n.Talks i).bind fun x1 => if (!decide (x1.State = 1)) then some (n,43) else (au2 address).bind fun x3 => if (!decide (x3.2 = 0)) then some (n,x3.2) else (ak0 n.Db x1.Host x3.1).bind fun x5 => if (!decide (x5.2 = 0)) then some (n,x5.2) else if ((decide (64 ≤ (List.length n.Talks : Int))) || (decide (1048575 < n.Next))) then some (n,22) else ae5 (fun s => ag3 n i x1 x5 s) 0
def ac0 (s : (List aa0)) (i j : Int) : Option (List aa0) := delL s i j
def aj5 (n : aa1) (x1 : Int) (p5 : (List aa0)) : Option aa1 :=
  (ad5 p5 x1).bind fun x6 => (ad5 (List.set p5 (Int.toNat x1) {x6 with State := 4}) x1).bind fun x7 => some {n with Talks := List.set (List.set p5 (Int.toNat x1) {x6 with State := 4}) (Int.toNat x1) {x7 with Peer := 0}}
def aA3 (n : aa1) (x1 : Int) (x2 : aa0) (x13 : aa0) : Option (Step Unit aa1) :=
  if (decide ((0 : Int) < (List.length x2.Backlog : Int))) then (ad5 x2.Backlog 0).bind fun x16 => none else some (.done {n with Talks := (List.set (List.set n.Talks (Int.toNat x1) {x2 with Backlog := ([] : List Int)}) (Int.toNat x1) {x13 with State := 4})})
def as6 (n : aa1) (id : Int) : Option aa1 :=
  (af6 n id).bind fun x1 => (ad5 n.Talks x1).bind fun x2 => if (decide (x2.State = 3)) then (af6 n x2.Peer).bind fun x8 => if (decide (0 ≤ x8)) then (ad5 n.Talks x8).bind fun x10 => (ad5 (List.set n.Talks (Int.toNat x8) {x10 with State := 4}) x8).bind fun x11 => aj5 n x1 (List.set (List.set n.Talks (Int.toNat x8) {x10 with State := 4}) (Int.toNat x8) {x11 with Peer := 0}) else aj5 n x1 n.Talks else if (decide (x2.State = 2)) then (ad5 (List.set n.Talks (Int.toNat x1) {x2 with Backlog := ([] : List Int)}) x1).bind fun x13 => ae5 (fun (_ : Unit) => aA3 n x1 x2 x13) () else some n
def ao7 (n : aa1) (id : Int) : Option aa1 :=
  (af6 n id).bind fun x1 => if (decide (x1 < 0)) then some n else (as6 n id).bind fun x3 => (af6 x3 id).bind fun x4 => (ac0 x3.Talks x4 (IntKind.wrap .i64 (x4 + 1))).bind fun x5 => some {x3 with Talks := x5}
def an4 (n : aa1) (x1 : Int) (p5 : (List aa0)) : Option aa1 :=
  (ad5 p5 x1).bind fun x6 => (ad5 (List.set p5 (Int.toNat x1) {x6 with State := 4}) x1).bind fun x7 => some {n with Talks := List.set (List.set p5 (Int.toNat x1) {x6 with State := 4}) (Int.toNat x1) {x7 with Peer := 0}}
def am5 (x2 : aa0) (v17 : Int) (v18 : (List aa2)) (v19 : Int) (v20 : (List aa0)) : Option (Step (Int × (List aa2) × Int × (List aa0)) aa1) :=
  if (decide (v17 < (List.length x2.Backlog : Int))) then (ad5 x2.Backlog v17).bind fun x23 => (ao7 (aa1.mk v18 v19 v20) x23).bind fun x24 => some (.cont ((IntKind.wrap .i64 (v17 + 1)),x24.Db,x24.Next,x24.Talks)) else some (.done (aa1.mk v18 v19 v20))
def as7 (n : aa1) (id : Int) : Option aa1 :=
  (af6 n id).bind fun x1 => (ad5 n.Talks x1).bind fun x2 => if (decide (x2.State = 3)) then (af6 n x2.Peer).bind fun x8 => if (decide (0 ≤ x8)) then (ad5 n.Talks x8).bind fun x10 => (ad5 (List.set n.Talks (Int.toNat x8) {x10 with State := 4}) x8).bind fun x11 => an4 n x1 (List.set (List.set n.Talks (Int.toNat x8) {x10 with State := 4}) (Int.toNat x8) {x11 with Peer := 0}) else an4 n x1 n.Talks else if (decide (x2.State = 2)) then (ad5 (List.set n.Talks (Int.toNat x1) {x2 with Backlog := ([] : List Int)}) x1).bind fun x13 => ae5 (fun s => am5 x2 s.1 s.2.1 s.2.2.1 s.2.2.2) (0,n.Db,n.Next,(List.set (List.set n.Talks (Int.toNat x1) {x2 with Backlog := ([] : List Int)}) (Int.toNat x1) {x13 with State := 4})) else some n
def ac8 (n : aa1) (p13 : Int) (p14 : (List aa2)) (p15 : Int) (p16 : (List aa0)) : Option (aa1 × Int) :=
  if (!decide (p13 = 0)) then (af7 n).bind fun x18 => some (x18,p13) else some ((aa1.mk p14 p15 p16),0)
def ae3 (n : aa1) (host : Str) (user : Str) (id : Int) (line : Str) : Option (aa1 × Int) :=
  (af6 n id).bind fun x1 => (if (decide (x1 < 0)) then some true else (ad5 n.Talks x1).bind fun x3 => some (!decide (x3.Host = host))).bind fun t4 => if t4 then (af7 n).bind fun x6 => some (x6,8) else (ad5 n.Talks x1).bind fun x7 => if (!decide (x7.Owner = user)) then (af7 n).bind fun x9 => some (x9,11) else (af7 n).bind fun x10 => (at9 line).bind fun x11 => (if (decide ((List.length x11 : Int) = 2)) then (ad5 x11 0).bind fun x20 => some (decide (x20 = [97,110,110,111,117,110,99,101])) else some false).bind fun t21 => if t21 then (ad5 x11 1).bind fun x23 => (aq4 x10 x1 x23).bind fun x24 => ac8 n x24.2 x24.1.Db x24.1.Next x24.1.Talks else (if (decide ((List.length x11 : Int) = 2)) then (ad5 x11 0).bind fun x26 => some (decide (x26 = [99,111,110,110,101,99,116])) else some false).bind fun t27 => if t27 then (ad5 x11 1).bind fun x29 => (an3 x10 x1 x29).bind fun x30 => ac8 n x30.2 x30.1.Db x30.1.Next x30.1.Talks else (if (decide ((List.length x11 : Int) = 1)) then (ad5 x11 0).bind fun x32 => some (decide (x32 = [104,97,110,103,117,112])) else some false).bind fun t33 => if t33 then (ad5 n.Talks x1).bind fun x35 => if ((decide (x35.State = 3)) || (decide (x35.State = 2))) then (as7 x10 id).bind fun x39 => ac8 n 0 x39.Db x39.Next x39.Talks else ac8 n 43 x10.Db x10.Next x10.Talks else ac8 n 54 x10.Db x10.Next x10.Talks
def ap5 (a : aa3) : Option (Str × Int) :=
  (au1 a).bind fun x1 => if (!x1) then some ([],36) else (ay2 a.Net [33]).bind fun x3 => (ay2 x3 a.Host).bind fun x4 => if (!decide (a.Service = [])) then (ay2 [33] a.Service).bind fun x6 => (ay2 x4 x6).bind fun x7 => some (x7,0) else some (x4,0)
def ao8 (n : aa1) (host : Str) (user : Str) (id : Int) (s_ : Str) : Option (aa1 × Int × Bool × Int) :=
  (af7 n).bind fun x1 => (ao6 n host id).bind fun x2 => if (!x2.2) then some (x1,0,false,8) else (ac7 x2.1).bind fun x4 => if x4 then some (x1,0,false,10) else if ((decide (x2.1.at_ < 0)) || ((!decide (x2.1.part = 1)) && (!decide (x2.1.part = 2)))) then some (x1,0,false,11) else if (decide (x2.1.part = 1)) then (ae3 n host user (IntKind.wrap .i64 (Int.tdiv id 16)) s_).bind fun x11 => if (!decide (x11.2 = 0)) then some (x11.1,0,false,x11.2) else some (x11.1,(List.length s_ : Int),false,0) else (ad5 n.Talks x2.1.at_).bind fun x13 => if (decide (x13.State ≤ 2)) then some (x1,0,false,43) else if (decide (x13.State = 4)) then some (x1,0,false,30) else if (decide (8192 < (List.length s_ : Int))) then some (x1,0,false,4) else (af6 x1 x13.Peer).bind fun x17 => (if (decide (x17 < 0)) then some true else (ad5 x1.Talks x17).bind fun x19 => some (decide (8192 < (IntKind.wrap .i64 ((List.length x19.Data : Int) + (List.length s_ : Int)))))).bind fun t20 => if t20 then some (x1,0,true,0) else (ad5 x1.Talks x17).bind fun x22 => (ay2 x22.Data s_).bind fun x23 => (ad5 x1.Talks x17).bind fun x24 => some ({x1 with Talks := List.set x1.Talks (Int.toNat x17) {x24 with Data := x23}},(List.length s_ : Int),false,0)
def aq0 (n : aa1) (f : ac2) : Option Str :=
  if (decide (f.at_ < 0)) then some [] else (ad5 n.Talks f.at_).bind fun x2 => if (decide (f.part = 1)) then (aK7 x2.Id 10).bind fun x4 => some x4 else if (decide (f.part = 4)) then (ad5 [[],[105,100,108,101],[97,110,110,111,117,110,99,101,100],[111,112,101,110],[104,117,110,103,117,112]] x2.State).bind fun x6 => some x6 else if (decide (f.part = 5)) then (ap5 x2.Local).bind fun x8 => some x8.1 else if (decide (f.part = 6)) then (ap5 x2.Remote).bind fun x10 => some x10.1 else some []
def au4 (n : aa1) (host : Str) (id : Int) (offset : Int) (count : Int) : Option (aa1 × Str × Bool × Int) :=
  (af7 n).bind fun x1 => (ao6 n host id).bind fun x2 => if (!x2.2) then some (x1,[],false,8) else (ac7 x2.1).bind fun x4 => if x4 then some (x1,[],false,10) else if ((decide (offset < 0)) || (decide (count < 0))) then some (x1,[],false,1) else if ((decide (x2.1.at_ < 0)) || (!decide (x2.1.part = 2))) then (aq0 n x2.1).bind fun x12 => (cut x12 (min offset (List.length x12 : Int)) (IntKind.wrap .i64 ((min offset (List.length x12 : Int)) + (min (min count 65536) (IntKind.wrap .i64 ((List.length x12 : Int) - (min offset (List.length x12 : Int)))))))).bind fun x13 => some (x1,x13,false,0) else (ad5 x1.Talks x2.1.at_).bind fun x14 => if (decide (x14.State ≤ 2)) then some (x1,[],false,43) else if (decide (x14.Data = [])) then some (x1,[],(decide (x14.State = 3)),0) else (cut x14.Data 0 (min (min count 65536) (List.length x14.Data : Int))).bind fun x17 => (cut x14.Data (min (min count 65536) (List.length x14.Data : Int)) (List.length x14.Data : Int)).bind fun x18 => some ({x1 with Talks := List.set x1.Talks (Int.toNat x2.1.at_) {x14 with Data := x18}},x17,false,0)
def av0 (l : (List aa2)) (hosts : (Str × Str)) (address : Str) : Option Bool :=
  (if (decide (50 < (List.length l : Int))) then some true else if (decide (100 < (List.length hosts.1 : Int))) then some true else if (decide (100 < (List.length hosts.2 : Int))) then some true else if (decide (200 < (List.length address : Int))) then some true else if (decide (hosts.1 = [115,101,108,102])) then some true else (aq6 (aa1.mk l 1 [])).bind fun x6 => if (!x6) then some true else (al2 l [104,111,115,116] hosts.1 [104,111,115,116]).bind fun x8 => some (decide ((List.length x8 : Int) = 0))).bind fun t9 => if t9 then (aj8).bind fun x11 => some x11 else (ag5 (aa1.mk l 1 []) hosts.1 [97,110,110] 3 2).bind fun x12 => if (!decide (x12.2.2.2 = 0)) then some false else (ay2 [97,110,110,111,117,110,99,101,32] address).bind fun x14 => (ae3 x12.1 hosts.1 [97,110,110] 1 x14).bind fun x15 => if (!decide (x15.2 = 0)) then (aj8).bind fun x17 => some x17 else (ad5 x15.1.Talks 0).bind fun x18 => (ap5 x18.Local).bind fun x19 => if (!decide (x19.2 = 0)) then some false else (ag5 x15.1 hosts.2 [98,111,98] 3 2).bind fun x21 => if (!decide (x21.2.2.2 = 0)) then some false else (ay2 [99,111,110,110,101,99,116,32] x19.1).bind fun x23 => (ae3 x21.1 hosts.2 [98,111,98] 2 x23).bind fun x24 => (if (!decide (x24.2 = 0)) then some true else if (!decide ((List.length x24.1.Talks : Int) = 3)) then some true else (ad5 x24.1.Talks 1).bind fun x27 => some (!(decide (x27.Remote.Net = x18.Local.Net) && (decide (x27.Remote.Host = x18.Local.Host) && (decide (x27.Remote.Service = x18.Local.Service) && true))))).bind fun t28 => if t28 then some false else (ag5 x24.1 hosts.1 [97,110,110] 19 2).bind fun x30 => if ((!decide (x30.2.2.2 = 0)) || (x30.2.2.1 || (!decide (x30.2.1 = 49)))) then some false else (ao8 x30.1 hosts.2 [98,111,98] 34 [104,101,108,108,111]).bind fun x35 => (au4 x35.1 hosts.1 50 0 9).bind fun x36 => (if (decide (x35.2.2.2 = 0)) then if (decide (x36.2.1 = [104,101,108,108,111])) then if (!x36.2.2.1) then if (decide (x36.2.2.2 = 0)) then (aj8).bind fun x41 => some x41 else some false else some false else some false else some false).bind fun t42 => some t42
end
end Go.Proofs.YtpnaccnofbkhiaaGreatDoor
