import Derived.Test.YtchaaedlfibdoaaGreatDoorVmB
open BitVec (ofInt)
open Int (tdiv tmod)
open Go.IntKind (wrap)
open List (set)
namespace Go.Proofs.YtchaaedlfibdoaaGreatDoor
open Go.Vm
set_option linter.unusedVariables false
set_option linter.unusedSimpArgs false
set_option maxRecDepth 100000
noncomputable section
abbrev Str := List UInt8
def aS1 {α β : Type} (o : Option α) (p : α → List β) (l : List β) : Option α := o.bind fun r => if (p r).length = l.length then some r else none
structure ab7 where
  Mz : Str
  Leader : Str
  Members : (List Str)
  deriving Inhabited
def zE1 (x : ab7) : PV := .agg [.str x.Mz,.str x.Leader,.sl none (List.map PV.str x.Members)]
structure af7 where
  Uz : Str
  Files : Int
  Bytes : Int
  deriving Inhabited
def zE2 (x : af7) : PV := .agg [.str x.Uz,.int .i64 x.Files,.int .i64 x.Bytes]
structure aa1 where
  Id : Int
  Parent : Int
  Vers : Int
  Mz : Str
  Mode : Int
  Uid : Str
  Gid : Str
  Muid : Str
  Atime : Int
  Mtime : Int
  Data : Str
  deriving Inhabited
def zE3 (x : aa1) : PV := .agg [.int .i64 x.Id,.int .i64 x.Parent,.int .i64 x.Vers,.str x.Mz,.int .i64 x.Mode,.str x.Uid,.str x.Gid,.str x.Muid,.int .i64 x.Atime,.int .i64 x.Mtime,.str x.Data]
structure aa3 where
  Xz : Int
  Nodes : (List aa1)
  deriving Inhabited
def zE4 (x : aa3) : PV := .agg [.int .i64 x.Xz,.sl (some 11) (List.map zE3 x.Nodes)]
structure ab6 where
  Users : (List ab7)
  Quotas : (List af7)
  Tree : aa3
  Excl : (List Int)
  deriving Inhabited
def zE5 (x : ab6) : PV := .agg [.sl (some 3) (List.map zE1 x.Users),.sl (some 3) (List.map zE2 x.Quotas),.int .i64 x.Tree.Xz,.sl (some 11) (List.map zE3 x.Tree.Nodes),.sl none (List.map (PV.int .i64) x.Excl)]
structure aa4 where
  Score : Str
  Kind : Int
  Data : Str
  deriving Inhabited
def zE6 (x : aa4) : PV := .agg [.str x.Score,.int .i64 x.Kind,.str x.Data]
structure aa0 where
  Cap : Int
  Blocks : (List aa4)
  deriving Inhabited
def zE7 (x : aa0) : PV := .agg [.int .i64 x.Cap,.sl (some 3) (List.map zE6 x.Blocks)]
structure ak9 where
  Time : Int
  Score : Str
  deriving Inhabited
def zE8 (x : ak9) : PV := .agg [.int .i64 x.Time,.str x.Score]
structure ai3 where
  Files : ab6
  Store : aa0
  Snaps : (List ak9)
  deriving Inhabited
def zE9 (x : ai3) : PV := .agg [.sl (some 3) (List.map zE1 x.Files.Users),.sl (some 3) (List.map zE2 x.Files.Quotas),.int .i64 x.Files.Tree.Xz,.sl (some 11) (List.map zE3 x.Files.Tree.Nodes),.sl none (List.map (PV.int .i64) x.Files.Excl),.int .i64 x.Store.Cap,.sl (some 3) (List.map zE6 x.Store.Blocks),.sl (some 2) (List.map zE8 x.Snaps)]
structure ac1 where
  dir : Int
  name : Str
  deriving Inhabited,DecidableEq
def cp4 (x : ac1) : PV := .agg [.int .i64 x.dir,.str x.name]
structure as0 where
  Score : Str
  Length : Int
  Levels : Int
  deriving Inhabited
def zE11 (x : as0) : PV := .agg [.str x.Score,.int .i64 x.Length,.int .i64 x.Levels]
structure aa2 where
  node : aa1
  root : as0
  deriving Inhabited
def aC5 (x : aa2) : PV := .agg [.int .i64 x.node.Id,.int .i64 x.node.Parent,.int .i64 x.node.Vers,.str x.node.Mz,.int .i64 x.node.Mode,.str x.node.Uid,.str x.node.Gid,.str x.node.Muid,.int .i64 x.node.Atime,.int .i64 x.node.Mtime,.str x.node.Data,.str x.root.Score,.int .i64 x.root.Length,.int .i64 x.root.Levels]
structure aa6 where
  s : Str
  at_ : Int
  bad : Bool
  deriving Inhabited
def a86 (x : aa6) : PV := .agg [.str x.s,.int .i64 x.at_,.bool x.bad]
structure ah2 where
  kind : Int
  length : Int
  lo : Int
  hi : Int
  deriving Inhabited
def cw2 (x : ah2) : PV := .agg [.int .i64 x.kind,.int .i64 x.length,.int .i64 x.lo,.int .i64 x.hi]
def ar0 (t_ : aa3) (v7 : Int) : Option (Step Int Bool) :=
  if (decide (v7 < (List.length t_.Nodes : Int))) then (ag1 t_.Nodes v7).bind fun x10 => (if (decide (3000 < (List.length x10.Data : Int))) then some true else (ag1 t_.Nodes v7).bind fun x12 => some (decide (200 < (List.length x12.Mz : Int)))).bind fun t13 => if t13 then some (.done false) else some (.cont (wrap .i64 (v7 + 1))) else some (.done (decide ((List.length t_.Nodes : Int) ≤ 12)))
def aO2 (t_ : aa3) : Option Bool :=
  ae0 (fun s => ar0 t_ s) 0
def at2 (name : Str) (i : Int) : Option (Step Int Bool) :=
  if (decide (i < (List.length name : Int))) then (aD4 name i).bind fun c14 => if ((!((decide (97 ≤ (c14.toNat : Int))) && (decide ((c14.toNat : Int) ≤ 122)))) && ((decide (i = 0)) || (bif (decide (48 ≤ (c14.toNat : Int))) then ((!(decide ((c14.toNat : Int) ≤ 57))) && ((!decide ((c14.toNat : Int) = 45)) && (!decide ((c14.toNat : Int) = 95)))) else ((!decide ((c14.toNat : Int) = 45)) && (!decide ((c14.toNat : Int) = 95)))))) then some (.done false) else some (.cont (wrap .i64 (i + 1))) else some (.done true)
def aH0 (name : Str) : Option Bool :=
  if ((decide ((List.length name : Int) < 1)) || (decide (32 < (List.length name : Int)))) then some false else ae0 (fun s => at2 name s) 0
def aO3 (l : (List ab7)) (name : Str) (v4 : Int) : Option (Step Int Int) :=
  if (decide (v4 < (List.length l : Int))) then (ag1 l v4).bind fun x7 => if (decide (x7.Mz = name)) then some (.done v4) else some (.cont (wrap .i64 (v4 + 1))) else some (.done (-1))
def aO4 (l : (List ab7)) (name : Str) : Option Int :=
  ae0 (fun s => aO3 l name s) 0
def ak3 (l : (List ab7)) (x1 : ab7) (v16 : Int) : Option (Step Int Int) :=
  if (decide (v16 < (List.length x1.Members : Int))) then (ag1 x1.Members v16).bind fun x19 => (aO4 l x19).bind fun x20 => (if (decide (x20 < 0)) then some true else if (decide (0 < v16)) then (ag1 x1.Members (wrap .i64 (v16 - 1))).bind fun x23 => (ag1 x1.Members v16).bind fun x24 => some (!blt x23 x24) else some false).bind fun t25 => if t25 then some (.done 26) else some (.cont (wrap .i64 (v16 + 1))) else some (.done 0)
def av2 (l : (List ab7)) (i : Int) : Option Int :=
  (ag1 l i).bind fun x1 => (aH0 x1.Mz).bind fun x2 => if (!x2) then some 25 else (aO4 l x1.Mz).bind fun x4 => if (decide (x4 < i)) then some 7 else (if (!decide (x1.Leader = [])) then (aO4 l x1.Leader).bind fun x7 => some (decide (x7 < 0)) else some false).bind fun t8 => if t8 then some 26 else ae0 (fun s => ak3 l x1 s) 0
def ar2 (l : (List ab7)) (v5 : Int) : Option (Step Int Int) :=
  if (decide (v5 < (List.length l : Int))) then (av2 l v5).bind fun x8 => if (!decide (x8 = 0)) then some (.done x8) else some (.cont (wrap .i64 (v5 + 1))) else some (.done 0)
def aH1 (l : (List ab7)) : Option Int :=
  if (decide (64 < (List.length l : Int))) then some 22 else ae0 (fun s => ar2 l s) 0
def at3 (l : (List af7)) (i : Int) : Option (Step Int Int) :=
  if (decide (i < (List.length l : Int))) then (ag1 l i).bind fun x14 => (aH0 x14.Uz).bind fun x15 => if (!x15) then some (.done 25) else (if (decide (0 < i)) then (ag1 l (wrap .i64 (i - 1))).bind fun x18 => some (!blt x18.Uz x14.Uz) else some false).bind fun t19 => if t19 then some (.done 2) else if ((decide (x14.Files < 0)) || ((decide (9007199254740991 < x14.Files)) || ((decide (x14.Bytes < 0)) || (decide (9007199254740991 < x14.Bytes))))) then some (.done 5) else some (.cont (wrap .i64 (i + 1))) else some (.done 0)
def aH2 (l : (List af7)) : Option Int :=
  if (decide (64 < (List.length l : Int))) then some 22 else ae0 (fun s => at3 l s) 0
def aT9 (mode : Int) : Option Bool :=
  if ((decide (mode < 0)) || (decide (4294967296 ≤ mode))) then some false else some ((decide ((wrap .i64 (mode - (tmod mode 512))) = 0)) || ((decide ((wrap .i64 (mode - (tmod mode 512))) = 2147483648)) || ((decide ((wrap .i64 (mode - (tmod mode 512))) = 1073741824)) || ((decide ((wrap .i64 (mode - (tmod mode 512))) = 536870912)) || (decide ((wrap .i64 (mode - (tmod mode 512))) = 1610612736))))))
def aO5 (mode : Int) : Option Bool :=
  some (decide (2147483648 ≤ mode))
def aC6 (n : aa1) : Option Bool :=
  (aT9 n.Mode).bind fun x1 => if ((!x1) || ((decide (n.Vers < 0)) || ((decide (2147483647 < n.Vers)) || ((decide (n.Atime < 0)) || ((decide (1099511627776 < n.Atime)) || ((decide (n.Mtime < 0)) || (decide (1099511627776 < n.Mtime)))))))) then some false else if ((decide (64 < (List.length n.Uid : Int))) || ((decide (64 < (List.length n.Gid : Int))) || ((decide (64 < (List.length n.Muid : Int))) || (decide (65536 < (List.length n.Data : Int)))))) then some false else (aO5 n.Mode).bind fun x15 => some ((!x15) || (decide (n.Data = [])))
def at4 (name : Str) (i : Int) : Option (Step Int Bool) :=
  if (decide (i < (List.length name : Int))) then (aD4 name i).bind fun c12 => (if (decide ((c12.toNat : Int) < 33)) then some true else (aD4 name i).bind fun c14 => if (decide (126 < (c14.toNat : Int))) then some true else (aD4 name i).bind fun c16 => some (decide ((c16.toNat : Int) = 47))).bind fun t17 => if t17 then some (.done false) else some (.cont (wrap .i64 (i + 1))) else some (.done ((decide (1 ≤ (List.length name : Int))) && ((decide ((List.length name : Int) ≤ 64)) && ((!decide (name = [46])) && (!decide (name = [46,46]))))))
def aO6 (name : Str) : Option Bool :=
  ae0 (fun s => at4 name s) 0
def aD5 (i : Int) (dir : Bool) : Option (Step Int Bool) :=
  if (!dir) then some (.done false) else some (.cont (wrap .i64 (i + 1)))
def ao7 (t_ : aa3) (i : Int) (dir : Bool) (k : Int) : Option (Step (Bool × Int) (Step Int Bool)) :=
  if (decide (k < i)) then (if dir then some true else (ag1 t_.Nodes k).bind fun x88 => (ag1 t_.Nodes i).bind fun x89 => if (decide (x88.Id = x89.Parent)) then (ag1 t_.Nodes k).bind fun x91 => (aO5 x91.Mode).bind fun x92 => some x92 else some false).bind fun t93 => (if (decide (0 < k)) then (ag1 t_.Nodes k).bind fun x95 => (ag1 t_.Nodes i).bind fun x96 => if (decide (x95.Parent = x96.Parent)) then (ag1 t_.Nodes k).bind fun x98 => (ag1 t_.Nodes i).bind fun x99 => some (decide (x98.Mz = x99.Mz)) else some false else some false).bind fun t100 => if t100 then some (.done (.done false)) else some (.cont (t93,(wrap .i64 (k + 1)))) else (aD5 i dir).map .done
def al8 (t_ : aa3) (i : Int) : Option (Step Int Bool) :=
  if (decide (i < (List.length t_.Nodes : Int))) then (ag1 t_.Nodes i).bind fun x63 => (ag1 t_.Nodes (wrap .i64 (i - 1))).bind fun x64 => (if (decide (x63.Id ≤ x64.Id)) then some true else (ag1 t_.Nodes i).bind fun x66 => (ag1 t_.Nodes i).bind fun x67 => if (decide (x67.Id ≤ x66.Parent)) then some true else (ag1 t_.Nodes i).bind fun x69 => (aO6 x69.Mz).bind fun x70 => if (!x70) then some true else (ag1 t_.Nodes i).bind fun x72 => (aC6 x72).bind fun x73 => some (!x73)).bind fun t74 => if t74 then some (.done false) else ae0 (fun s => ao7 t_ i s.1 s.2) (false,0) else some (.done true)
def aO7 (t_ : aa3) : Option Bool :=
  (if (decide ((List.length t_.Nodes : Int) < 1)) then some true else if (decide (1024 < (List.length t_.Nodes : Int))) then some true else (ag1 t_.Nodes 0).bind fun x3 => if (!decide (x3.Id = 1)) then some true else (ag1 t_.Nodes 0).bind fun x5 => if (!decide (x5.Parent = 1)) then some true else (ag1 t_.Nodes 0).bind fun x7 => if (!decide (x7.Mz = [47])) then some true else (ag1 t_.Nodes 0).bind fun x9 => if (decide (x9.Mode < 2147483648)) then some true else (ag1 t_.Nodes 0).bind fun x11 => (aC6 x11).bind fun x12 => some (!x12)).bind fun t13 => if t13 then some false else (ag1 t_.Nodes (wrap .i64 ((List.length t_.Nodes : Int) - 1))).bind fun x15 => if ((decide (t_.Xz ≤ x15.Id)) || (decide (1048576 < t_.Xz))) then some false else ae0 (fun s => al8 t_ s) 1
def aB6 (t_ : aa3) (id : Int) (i : Int) : Option (Step Int Int) :=
  if (decide (i < (List.length t_.Nodes : Int))) then (ag1 t_.Nodes i).bind fun x7 => if (decide (x7.Id = id)) then some (.done i) else some (.cont (wrap .i64 (i + 1))) else some (.done (-1))
def aH3 (t_ : aa3) (id : Int) : Option Int :=
  ae0 (fun s => aB6 t_ id s) 0
def aF7 (t_ : aa3) (id : Int) : Option (aa1 × Bool) :=
  (aH3 t_ id).bind fun x1 => if (decide (x1 < 0)) then some ((aa1.mk 0 0 0 [] 0 [] [] [] 0 0 []),false) else (ag1 t_.Nodes x1).bind fun x3 => some (x3,true)
def aS2 (mode : Int) (bit : Int) : Option Bool :=
  (if (decide (0 ≤ mode)) then (quoI .i64 mode bit).bind fun x2 => some (decide ((tmod x2 2) = 1)) else some false).bind fun t3 => some t3
def ah4 (s_ : ab6) (v16 : Int) : Option (Step Int Bool) :=
  if (decide (v16 < (List.length s_.Excl : Int))) then (ag1 s_.Excl v16).bind fun x19 => (aF7 s_.Tree x19).bind fun x20 => (if (!x20.2) then some true else (aS2 x20.1.Mode 536870912).bind fun x22 => if (!x22) then some true else if (decide (0 < v16)) then (ag1 s_.Excl (wrap .i64 (v16 - 1))).bind fun x25 => (ag1 s_.Excl v16).bind fun x26 => some (decide (x26 ≤ x25)) else some false).bind fun t27 => if t27 then some (.done false) else some (.cont (wrap .i64 (v16 + 1))) else some (.done true)
def aH4 (s_ : ab6) : Option Bool :=
  (aH1 s_.Users).bind fun x1 => (if (!decide (x1 = 0)) then some true else (aH2 s_.Quotas).bind fun x3 => if (!decide (x3 = 0)) then some true else (aO7 s_.Tree).bind fun x5 => some (!x5)).bind fun t6 => if t6 then some false else ae0 (fun s => ah4 s_ s) 0
def av3 : Option Bool := some true
def an6 : Option (List ab7) :=
  some ([] : List ab7)
def aj0 : Option (List ab7) :=
  (aF3 56 ([] : List ab7) []).bind fun x1 => some x1
def ac6 (s_ : (List ab7)) : Option (List ab7) :=
  (aF3 56 ([] : List ab7) s_).bind fun x1 => some x1
def as1 : Option (List Str) :=
  some ([] : List Str)
def al0 : Option (List Str) :=
  (aF3 16 ([] : List Str) []).bind fun x1 => some x1
def ae1 (s_ : (List Str)) : Option (List Str) :=
  (aF3 16 ([] : List Str) s_).bind fun x1 => some x1
def am0 : Option (List af7) :=
  some ([] : List af7)
def ai0 : Option (List af7) :=
  (aF3 32 ([] : List af7) []).bind fun x1 => some x1
def ac2 (s_ : (List af7)) : Option (List af7) :=
  (aF3 32 ([] : List af7) s_).bind fun x1 => some x1
def an7 : Option (List aa1) :=
  some ([] : List aa1)
def aj1 : Option (List aa1) :=
  (aF3 128 ([] : List aa1) []).bind fun x1 => some x1
def ac7 (s_ : (List aa1)) : Option (List aa1) :=
  (aF3 128 ([] : List aa1) s_).bind fun x1 => some x1
def az5 : Option (List Int) :=
  some ([] : List Int)
def ar7 : Option (List Int) :=
  (aF3 8 ([] : List Int) []).bind fun x1 => some x1
def ah0 (s_ : (List Int)) : Option (List Int) :=
  (aF3 8 ([] : List Int) s_).bind fun x1 => some x1
def ao8 (f : ab6) (v7 : (List ab7)) : Option ab6 :=
  (ac2 f.Quotas).bind fun x13 => (ac7 f.Tree.Nodes).bind fun x14 => (ah0 f.Excl).bind fun x15 => some (ab6.mk v7 x13 (aa3.mk f.Tree.Xz x14) x15)
def ai4 (f : ab6) (x1 : (List ab7)) (v6 : Int) (v7 : (List ab7)) : Option (Step (Int × (List ab7)) ab6) :=
  if (decide (v6 < (List.length x1 : Int))) then (ag1 v7 v6).bind fun x10 => (ae1 x10.Members).bind fun x11 => (ag1 v7 v6).bind fun x12 => some (.cont ((wrap .i64 (v6 + 1)),(set v7 (Int.toNat v6) {x12 with Members := x11}))) else (ao8 f v7).map .done
def ai8 (f : ab6) : Option ab6 :=
  (ac6 f.Users).bind fun x1 => ae0 (fun s => ai4 f x1 s.1 s.2) (0,x1)
def aS3 (most : Int) : Option aa0 :=
  some (aa0.mk (min (max most 1) 4096) ([] : List aa4))
def ax3 (f : ab6) (blocks : Int) : Option ai3 :=
  (ai8 f).bind fun x1 => (aS3 blocks).bind fun x2 => some (ai3.mk x1 x2 ([] : List ak9))
def am1 : Option (List aa4) :=
  some ([] : List aa4)
def ai1 : Option (List aa4) :=
  (aF3 40 ([] : List aa4) []).bind fun x1 => some x1
def ab3 (s_ : (List aa4)) : Option (List aa4) :=
  (aF3 40 ([] : List aa4) s_).bind fun x1 => some x1
def an8 : Option (List ak9) :=
  some ([] : List ak9)
def aj2 : Option (List ak9) :=
  (aF3 24 ([] : List ak9) []).bind fun x1 => some x1
def ac8 (s_ : (List ak9)) : Option (List ak9) :=
  (aF3 24 ([] : List ak9) s_).bind fun x1 => some x1
def ai5 (s_ : ai3) : Option ai3 :=
  (ai8 s_.Files).bind fun x1 => (ab3 s_.Store.Blocks).bind fun x2 => (ac8 s_.Snaps).bind fun x3 => some (ai3.mk x1 (aa0.mk s_.Store.Cap x2) x3)
def aq5 (p3 : Bool) : Option Bool :=
  if p3 then some true else some false
def aU0 (mode : Int) : Option Bool :=
  if (decide (mode < 0)) then some false else if (decide ((wrap .i64 (mode - (tmod mode 512))) = 0)) then aq5 (decide ((wrap .i64 (mode - (tmod mode 512))) = 0)) else if (decide ((wrap .i64 (mode - (tmod mode 512))) = 2147483648)) then aq5 (decide ((wrap .i64 (mode - (tmod mode 512))) = 2147483648)) else if (decide ((wrap .i64 (mode - (tmod mode 512))) = 1073741824)) then aq5 (decide ((wrap .i64 (mode - (tmod mode 512))) = 1073741824)) else if (decide ((wrap .i64 (mode - (tmod mode 512))) = 536870912)) then aq5 (decide ((wrap .i64 (mode - (tmod mode 512))) = 536870912)) else aq5 (decide ((wrap .i64 (mode - (tmod mode 512))) = 1610612736))
def aU1 (now : Int) : Option Int :=
  some (min (max now 0) 1099511627776)
def an5 (mode : Int) : Option Bool :=
  some ((decide (0 ≤ mode)) && (decide ((tmod (wrap .i64 (tdiv mode 2147483648)) 2) = 1)))
def aU2 (n : aa1) : Option Bool :=
  (aU0 n.Mode).bind fun x1 => (if (!x1) then some true else if (decide (n.Vers < 0)) then some true else if (decide (2147483647 < n.Vers)) then some true else (aU1 n.Atime).bind fun x5 => if (!decide (n.Atime = x5)) then some true else (aU1 n.Mtime).bind fun x7 => some (!decide (n.Mtime = x7))).bind fun t8 => if t8 then some false else if ((decide (64 < (max (max (List.length n.Uid : Int) (List.length n.Gid : Int)) (List.length n.Muid : Int)))) || (decide (65536 < (List.length n.Data : Int)))) then some false else (an5 n.Mode).bind fun x13 => some ((!x13) || (decide (n.Data = [])))
def av4 (name : Str) (v14 : Int) : Option (Step Int Bool) :=
  if (decide (v14 < (List.length name : Int))) then (aD4 name v14).bind fun c17 => (if (decide ((c17.toNat : Int) < 33)) then some true else (aD4 name v14).bind fun c19 => if (decide (126 < (c19.toNat : Int))) then some true else (aD4 name v14).bind fun c21 => some (decide ((c21.toNat : Int) = 47))).bind fun t22 => if t22 then some (.done false) else some (.cont (wrap .i64 (v14 + 1))) else some (.done true)
def aU3 (name : Str) : Option Bool :=
  if ((decide (name = [])) || ((decide (name = [46])) || ((decide (name = [46,46])) || (decide (64 < (List.length name : Int)))))) then some false else ae0 (fun s => av4 name s) 0
def av5 (v50 : Int) (v51 : (ap6 Int)) (x55 : aa1) (p65 : (ap6 ac1)) : Option (Step (Int × (ap6 Int) × (ap6 ac1)) Bool) :=
  (an5 x55.Mode).bind fun x66 => if x66 then some (.cont ((wrap .i64 (v50 + 1)),(a55 v51 x55.Id (wrap .i64 ((aq8 v51 x55.Id) + 1))),p65)) else some (.cont ((wrap .i64 (v50 + 1)),v51,p65))
def av6 (v50 : Int) (v51 : (ap6 Int)) (v52 : (ap6 ac1)) (x55 : aa1) : Option (Step (Int × (ap6 Int) × (ap6 ac1)) Bool) :=
  if (decide (0 < v50)) then (cc5 ((bj9 v52 (ac1.mk x55.Parent x55.Mz)).2.2) ((bj9 v52 (ac1.mk x55.Parent x55.Mz)).2.1 : Int) (wrap .i64 ((aq8 v52 (ac1.mk x55.Parent x55.Mz)) + 1))).bind fun m69 => av5 v50 v51 x55 (m69,((bj9 v52 (ac1.mk x55.Parent x55.Mz)).2.2).2) else av5 v50 v51 x55 v52
def av7 (t_ : aa3) (v50 : Int) (v51 : (ap6 Int)) (v52 : (ap6 ac1)) : Option (Step (Int × (ap6 Int) × (ap6 ac1)) Bool) :=
  if (decide (v50 < (List.length t_.Nodes : Int))) then (ag1 t_.Nodes v50).bind fun x55 => (aU2 x55).bind fun x56 => (if (!x56) then some true else if (decide (t_.Xz ≤ x55.Id)) then some true else if (decide (0 < v50)) then (ag1 t_.Nodes (wrap .i64 (v50 - 1))).bind fun x60 => some (decide (x55.Id ≤ x60.Id)) else some false).bind fun t61 => if t61 then some (.done false) else if (decide (v50 = 0)) then (if (!decide (x55.Id = 1)) then some true else if (!decide (x55.Parent = 1)) then some true else if (!decide (x55.Mz = [47])) then some true else (an5 x55.Mode).bind fun x74 => some (!x74)).bind fun t75 => if t75 then some (.done false) else av6 v50 v51 v52 x55 else (aU3 x55.Mz).bind fun x77 => if ((!x77) || ((decide ((aq8 v51 x55.Parent) = 0)) || (decide (0 < (aq8 v52 (ac1.mk x55.Parent x55.Mz)))))) then some (.done false) else av6 v50 v51 v52 x55 else some (.done true)
def aA4 (t_ : aa3) : Option Bool :=
  if ((decide ((List.length t_.Nodes : Int) < 1)) || ((decide (1024 < (List.length t_.Nodes : Int))) || (decide (1048576 < t_.Xz)))) then some false else ae0 (fun s => av7 t_ s.1 s.2.1 s.2.2) (0,(([],0) : ap6 Int),(([],0) : ap6 ac1))
def aA5 (s_ : aa0) : Option aa0 :=
  (ab3 s_.Blocks).bind fun x1 => some (aa0.mk s_.Cap x1)
def aS4 (n : aa1) (a1 : Int) : Option Bool :=
  some (decide (n.Id = a1))
def al5 (t_ : aa3) (accepts : Int) (v5 : Int) : Option (Step Int Int) :=
  if (decide (v5 < (List.length t_.Nodes : Int))) then (ag1 t_.Nodes v5).bind fun x8 => (aS4 x8 accepts).bind fun x9 => if x9 then some (.done v5) else some (.cont (wrap .i64 (v5 + 1))) else some (.done (-1))
def aK2 (t_ : aa3) (accepts : Int) : Option Int :=
  ae0 (fun s => al5 t_ accepts s) 0
def aL5 (t_ : aa3) (id : Int) : Option Int :=
  (aK2 t_ id).bind fun x1 => some x1
def aL6 (t_ : aa3) (id : Int) : Option (aa1 × Bool) :=
  (aL5 t_ id).bind fun x1 => if (decide (x1 < 0)) then some ((aa1.mk 0 0 0 [] 0 [] [] [] 0 0 []),false) else (ag1 t_.Nodes x1).bind fun x3 => some (x3,true)
def af8 (n : aa1) : Option Bool :=
  some (decide (2147483648 ≤ n.Mode))
def aO8 (t_ : aa3) (dir : Int) : Option Int :=
  (aL6 t_ dir).bind fun x1 => if (!x1.2) then some 8 else (an5 x1.1.Mode).bind fun x3 => if (!x3) then some 9 else some 0
def ao9 (t_ : aa3) (dir : Int) (v9 : Int) (out : (List Int)) : Option (Step (Int × (List Int)) (List Int)) :=
  if (decide (v9 < (List.length t_.Nodes : Int))) then (ag1 t_.Nodes v9).bind fun x13 => if ((decide (x13.Parent = dir)) && (!decide (x13.Id = 1))) then (aF3 8 out [x13.Id]).bind fun x17 => some (.cont ((wrap .i64 (v9 + 1)),x17)) else some (.cont ((wrap .i64 (v9 + 1)),out)) else some (.done out)
def aE3 (t_ : aa3) (dir : Int) : Option (List Int) :=
  (aO8 t_ dir).bind fun x1 => if (!decide (x1 = 0)) then some ([] : List Int) else ae0 (fun s => ao9 t_ dir s.1 s.2) (0,([] : List Int))
def ay1 (n : Int) (x9 : (List Int)) (v13 : Int) (out : (List Int)) : Option (Step (Int × (List Int)) (Str × Int)) :=
  if (decide (v13 < (List.length x9 : Int))) then (bq8 .i64 n (wrap .i64 (8 * v13))).bind fun x17 => (ag1 out v13).bind fun x18 => some (.cont ((wrap .i64 (v13 + 1)),(set out (Int.toNat v13) (wrap .u8 x17)))) else some (.done ((bR0 out),0))
def at5 (n : Int) (width : Int) : Option (Str × Int) :=
  if ((decide (width < 1)) || (decide (8 < width))) then some ([],1) else (if (decide (n < 0)) then some true else if (decide (width < 8)) then (bq8 .i64 n (wrap .i64 (8 * width))).bind fun x6 => some (decide (0 < x6)) else some false).bind fun t7 => if t7 then some ([],5) else (mkC 1 (0 : Int) width width).bind fun x9 => ae0 (fun s => ay1 n x9 s.1 s.2) (0,x9)
def ae4 (n : Int) (width : Int) (v : Str) : Option Str :=
  (at5 n width).bind fun x1 => (bj8 v x1.1).bind fun x2 => some x2
def aE4 (s_ : Str) : Option (Str × Int) :=
  if (decide (65535 < (List.length s_ : Int))) then some ([],4) else (at5 (List.length s_ : Int) 2).bind fun x2 => (bj8 x2.1 s_).bind fun x3 => some (x3,x2.2)
def ay2 (x_ : aa2) (v13 : Str) : Option Str :=
  (ae4 x_.root.Length 4 v13).bind fun x19 => (ae4 x_.root.Levels 1 x19).bind fun x20 => (bj8 x20 x_.root.Score).bind fun x21 => some x21
def am7 (x_ : aa2) (v12 : Int) (v13 : Str) : Option (Step (Int × Str) Str) :=
  if (decide (v12 < 4)) then (ag1 [x_.node.Mz,x_.node.Uid,x_.node.Gid,x_.node.Muid] v12).bind fun x16 => (aE4 x16).bind fun x17 => (bj8 v13 x17.1).bind fun x18 => some (.cont ((wrap .i64 (v12 + 1)),x18)) else (ay2 x_ v13).map .done
def as2 (x_ : aa2) (v3 : Str) : Option Str :=
  (ae4 x_.node.Atime 8 v3).bind fun x8 => (ae4 x_.node.Mtime 8 x8).bind fun x9 => ae0 (fun s => am7 x_ s.1 s.2) (0,x9)
def ap0 (x_ : aa2) (v2 : Int) (v3 : Str) : Option (Step (Int × Str) Str) :=
  if (decide (v2 < 4)) then (ag1 [x_.node.Id,x_.node.Parent,x_.node.Vers,x_.node.Mode] v2).bind fun x6 => (ae4 x6 4 v3).bind fun x7 => some (.cont ((wrap .i64 (v2 + 1)),x7)) else (as2 x_ v3).map .done
def av8 (x_ : aa2) : Option Str :=
  ae0 (fun s => ap0 x_ s.1 s.2) (0,[])
def al9 (level : Int) (n : Int) (v3 : Int) : Option (Step (Int × Int) Int) :=
  if (decide (v3 < level)) then some (.cont ((wrap .i64 (tdiv (wrap .i64 ((wrap .i64 (n + 32)) - 1)) 32)),(wrap .i64 (v3 + 1)))) else some (.done n)
def ak7 (length : Int) (level : Int) : Option Int :=
  ae0 (fun s => al9 level s.1 s.2) ((max 1 (wrap .i64 (tdiv (wrap .i64 ((wrap .i64 (length + 1024)) - 1)) 1024))),0)
def ap1 (length : Int) (level : Int) : Option (Step Int Int) :=
  (ak7 length level).bind fun x5 => if (decide (1 < x5)) then some (.cont (wrap .i64 (level + 1))) else some (.done level)
def av9 (length : Int) : Option Int :=
  ae0 (fun s => ap1 length s) 0
def ay3 (s__1 : Str) (out : (List Str)) : Option (List Str) :=
  (aF3 16 out [s__1]).bind fun x12 => some x12
def au8 (size : Int) (s__1 : Str) (out : (List Str)) : Option (Step (Str × (List Str)) (List Str)) :=
  if (decide (size < (List.length s__1 : Int))) then (cut s__1 0 size).bind fun x9 => (aF3 16 out [x9]).bind fun x10 => (cut s__1 size (List.length s__1 : Int)).bind fun x11 => some (.cont (x11,x10)) else (ay3 s__1 out).map .done
def ar3 (s_ : Str) (size : Int) : Option (List Str) :=
  ae0 (fun s => au8 size s.1 s.2) (s_,([] : List Str))
def aY2 (s_ : aa0) : Option aa0 :=
  (ab3 s_.Blocks).bind fun x1 => some (aa0.mk s_.Cap x1)
def ax0 (kind : Int) : Option Bool :=
  some ((decide (1 ≤ kind)) && (decide (kind ≤ 4)))
def ap9 (s_ : Str) (i : Int) (v12 : Str) : Option (Step (Int × Str) Str) :=
  if (decide (0 ≤ i)) then (bq8 .u64 (wrap .u64 (8 * (wrap .u64 (List.length s_ : Int)))) i).bind fun x15 => (bAdd v12 [(u8w x15)]).bind fun x16 => some (.cont ((wrap .i64 (i - 8)),x16)) else some (.done v12)
def aH5 (s_ : Str) (v5 : Str) : Option (Step Str Str) :=
  if (!decide ((tmod (List.length v5 : Int) 64) = 56)) then (bAdd v5 [(0 : UInt8)]).bind fun x8 => some (.cont x8) else (ae0 (fun s => ap9 s_ s.1 s.2) (56,v5)).map .done
def ba4 (s_ : Str) : Option Str :=
  (bAdd ([] : Str) s_).bind fun x1 => (bAdd x1 [(128 : UInt8)]).bind fun x2 => ae0 (fun s => aH5 s_ s) x2
def a21 (s_ : Str) : Option Int :=
  (aD4 s_ 0).bind fun c1 => (cb9 .u32 (wrap .u32 (c1.toNat : Int)) 24).bind fun x2 => (aD4 s_ 1).bind fun c3 => (cb9 .u32 (wrap .u32 (c3.toNat : Int)) 16).bind fun x4 => (aD4 s_ 2).bind fun c5 => (cb9 .u32 (wrap .u32 (c5.toNat : Int)) 8).bind fun x6 => (aD4 s_ 3).bind fun c7 => some (wrap .u32 ((ofInt (IntKind.bits .u32) (wrap .u32 ((ofInt (IntKind.bits .u32) (wrap .u32 ((ofInt (IntKind.bits .u32) x2 ||| (ofInt (IntKind.bits .u32) x4)).toNat : Nat)) ||| (ofInt (IntKind.bits .u32) x6)).toNat : Nat)) ||| (ofInt (IntKind.bits .u32) (wrap .u32 (c7.toNat : Int)))).toNat : Nat))
def ar8 (x_ : Int) (k : Int) : Option Int :=
  (cb9 .u32 x_ (wrap .u64 ((ofInt (IntKind.bits .u64) (wrap .u64 k) &&& (ofInt (IntKind.bits .u64) 31)).toNat : Nat))).bind fun x1 => (bq8 .u32 x_ (wrap .u64 (32 - (wrap .u64 ((ofInt (IntKind.bits .u64) (wrap .u64 k) &&& (ofInt (IntKind.bits .u64) 31)).toNat : Nat))))).bind fun x2 => some (wrap .u32 ((ofInt (IntKind.bits .u32) x1 ||| (ofInt (IntKind.bits .u32) x2)).toNat : Nat))
def ae6 (x_ : Int) (n : Int) : Option Int :=
  (ar8 x_ (wrap .i64 (0 - n))).bind fun x1 => some x1
def aA6 (v5 : (List Int)) : Option (List Int) :=
  (aX9 64 v5).bind fun x29 => some v5
def am4 (block : Str) (v4 : Int) (v5 : (List Int)) : Option (Step (Int × (List Int)) (List Int)) :=
  if (decide (v4 < 64)) then if (decide (v4 < 16)) then (cut block (wrap .i64 (4 * v4)) (List.length block : Int)).bind fun x9 => (a21 x9).bind fun x10 => (bE7 64 v4).bind fun x11 => (br2 v5 v4 x10).bind fun x12 => some (.cont ((wrap .i64 (v4 + 1)),x12)) else (bE7 64 (wrap .i64 (v4 - 15))).bind fun x13 => (ag1 v5 (wrap .i64 (v4 - 15))).bind fun x14 => (bE7 64 (wrap .i64 (v4 - 2))).bind fun x15 => (ag1 v5 (wrap .i64 (v4 - 2))).bind fun x16 => (ae6 x14 7).bind fun x17 => (ae6 x14 18).bind fun x18 => (bq8 .u32 x14 3).bind fun x19 => (ae6 x16 17).bind fun x20 => (ae6 x16 19).bind fun x21 => (bq8 .u32 x16 10).bind fun x22 => (bE7 64 (wrap .i64 (v4 - 16))).bind fun x23 => (ag1 v5 (wrap .i64 (v4 - 16))).bind fun x24 => (bE7 64 (wrap .i64 (v4 - 7))).bind fun x25 => (ag1 v5 (wrap .i64 (v4 - 7))).bind fun x26 => (bE7 64 v4).bind fun x27 => (br2 v5 v4 (wrap .u32 ((wrap .u32 ((wrap .u32 (x24 + (wrap .u32 ((ofInt (IntKind.bits .u32) (wrap .u32 ((ofInt (IntKind.bits .u32) x17 ^^^ (ofInt (IntKind.bits .u32) x18)).toNat : Nat)) ^^^ (ofInt (IntKind.bits .u32) x19)).toNat : Nat)))) + x26)) + (wrap .u32 ((ofInt (IntKind.bits .u32) (wrap .u32 ((ofInt (IntKind.bits .u32) x20 ^^^ (ofInt (IntKind.bits .u32) x21)).toNat : Nat)) ^^^ (ofInt (IntKind.bits .u32) x22)).toNat : Nat))))).bind fun x28 => some (.cont ((wrap .i64 (v4 + 1)),x28)) else (aA6 v5).map .done
def aE5 (block : Str) : Option (List Int) :=
  ae0 (fun s => am4 block s.1 s.2) (0,(List.replicate 64 (0 : Int)))
def a87 (v47 : (List Int)) : Option (List Int) :=
  (aX9 8 v47).bind fun x56 => some v47
def ad5 (v22 : (List Int)) (v46 : Int) (v47 : (List Int)) : Option (Step (Int × (List Int)) (List Int)) :=
  if (decide (v46 < 8)) then (bE7 8 v46).bind fun x50 => (ag1 v47 v46).bind fun x51 => (bE7 8 v46).bind fun x52 => (ag1 v22 v46).bind fun x53 => (bE7 8 v46).bind fun x54 => (br2 v47 v46 (wrap .u32 (x51 + x53))).bind fun x55 => some (.cont ((wrap .i64 (v46 + 1)),x55)) else (a87 v47).map .done
def aC7 (h_ : (List Int)) (x2 : (List Int)) (v21 : Int) (v22 : (List Int)) : Option (Step (Int × (List Int)) (List Int)) :=
  if (decide (v21 < 64)) then (ag1 v22 0).bind fun x25 => (ag1 v22 1).bind fun x26 => (ag1 v22 2).bind fun x27 => (ag1 v22 4).bind fun x28 => (ag1 v22 5).bind fun x29 => (ag1 v22 6).bind fun x30 => (ag1 v22 7).bind fun x31 => (ae6 x28 6).bind fun x32 => (ae6 x28 11).bind fun x33 => (ae6 x28 25).bind fun x34 => (bE7 64 v21).bind fun x35 => (ag1 ao1 v21).bind fun x36 => (bE7 64 v21).bind fun x37 => (ag1 x2 v21).bind fun x38 => (ae6 x25 2).bind fun x39 => (ae6 x25 13).bind fun x40 => (ae6 x25 22).bind fun x41 => (ag1 v22 3).bind fun x42 => some (.cont ((wrap .i64 (v21 + 1)),([(wrap .u32 ((wrap .u32 ((wrap .u32 ((wrap .u32 ((wrap .u32 (x31 + (wrap .u32 ((ofInt (IntKind.bits .u32) (wrap .u32 ((ofInt (IntKind.bits .u32) x32 ^^^ (ofInt (IntKind.bits .u32) x33)).toNat : Nat)) ^^^ (ofInt (IntKind.bits .u32) x34)).toNat : Nat)))) + (wrap .u32 ((ofInt (IntKind.bits .u32) (wrap .u32 ((ofInt (IntKind.bits .u32) x28 &&& (ofInt (IntKind.bits .u32) x29)).toNat : Nat)) ^^^ (ofInt (IntKind.bits .u32) (wrap .u32 ((ofInt (IntKind.bits .u32) (notI .u32 x28) &&& (ofInt (IntKind.bits .u32) x30)).toNat : Nat)))).toNat : Nat)))) + x36)) + x38)) + (wrap .u32 ((wrap .u32 ((ofInt (IntKind.bits .u32) (wrap .u32 ((ofInt (IntKind.bits .u32) x39 ^^^ (ofInt (IntKind.bits .u32) x40)).toNat : Nat)) ^^^ (ofInt (IntKind.bits .u32) x41)).toNat : Nat)) + (wrap .u32 ((ofInt (IntKind.bits .u32) (wrap .u32 ((ofInt (IntKind.bits .u32) (wrap .u32 ((ofInt (IntKind.bits .u32) x25 &&& (ofInt (IntKind.bits .u32) x26)).toNat : Nat)) ^^^ (ofInt (IntKind.bits .u32) (wrap .u32 ((ofInt (IntKind.bits .u32) x25 &&& (ofInt (IntKind.bits .u32) x27)).toNat : Nat)))).toNat : Nat)) ^^^ (ofInt (IntKind.bits .u32) (wrap .u32 ((ofInt (IntKind.bits .u32) x26 &&& (ofInt (IntKind.bits .u32) x27)).toNat : Nat)))).toNat : Nat)))))),x25,x26,x27,(wrap .u32 (x42 + (wrap .u32 ((wrap .u32 ((wrap .u32 ((wrap .u32 (x31 + (wrap .u32 ((ofInt (IntKind.bits .u32) (wrap .u32 ((ofInt (IntKind.bits .u32) x32 ^^^ (ofInt (IntKind.bits .u32) x33)).toNat : Nat)) ^^^ (ofInt (IntKind.bits .u32) x34)).toNat : Nat)))) + (wrap .u32 ((ofInt (IntKind.bits .u32) (wrap .u32 ((ofInt (IntKind.bits .u32) x28 &&& (ofInt (IntKind.bits .u32) x29)).toNat : Nat)) ^^^ (ofInt (IntKind.bits .u32) (wrap .u32 ((ofInt (IntKind.bits .u32) (notI .u32 x28) &&& (ofInt (IntKind.bits .u32) x30)).toNat : Nat)))).toNat : Nat)))) + x36)) + x38)))),x28,x29,x30] : List Int))) else (ae0 (fun s => ad5 v22 s.1 s.2) (0,h_)).map .done
def a22 (h_ : (List Int)) (block : Str) : Option (List Int) :=
  (aX9 8 h_).bind fun x1 => (aE5 block).bind fun x2 => (aX9 64 x2).bind fun x3 => (aX9 8 h_).bind fun x4 => ae0 (fun s => aC7 h_ x2 s.1 s.2) (0,h_)
def ax4 (v8 : (List Int)) (v21 : Int) (out : (List Int)) : Option (Step (Int × (List Int)) Str) :=
  if (decide (v21 < 8)) then (bE8 8 v8 v21).bind fun x25 => (bq8 .u32 x25 24).bind fun x26 => (bq8 .u32 x25 16).bind fun x27 => (bq8 .u32 x25 8).bind fun x28 => (aF3 1 out [(wrap .u8 x26),(wrap .u8 x27),(wrap .u8 x28),(wrap .u8 x25)]).bind fun x29 => some (.cont ((wrap .i64 (v21 + 1)),x29)) else some (.done (bR0 out))
def aJ2 (v8 : (List Int)) : Option Str :=
  (mkC 1 (0 : Int) 0 32).bind fun x15 => ae0 (fun s => ax4 v8 s.1 s.2) (0,x15)
def aH6 (p : Str) (v8 : (List Int)) : Option (Step (Str × (List Int)) Str) :=
  if (!decide (p = [])) then (cut p 0 64).bind fun x11 => (a22 v8 x11).bind fun x12 => (aX9 8 x12).bind fun x13 => (cut p 64 (List.length p : Int)).bind fun x14 => some (.cont (x14,x12)) else (aJ2 v8).map .done
def a23 (s_ : Str) : Option Str :=
  (ba4 s_).bind fun x1 => ae0 (fun s => aH6 s.1 s.2) (x1,([1779033703,3144134277,1013904242,2773480762,1359893119,2600822924,528734635,1541459225] : List Int))
def aL7 (kind : Int) (s_ : Str) : Option Str :=
  (bj8 ([UInt8.ofNat (Int.toNat (wrap .u8 kind))] : Str) s_).bind fun x1 => (a23 x1).bind fun x2 => some x2
def aF8 (kind : Int) (data : Str) : Option aa4 :=
  (aL7 kind data).bind fun x1 => some (aa4.mk x1 kind data)
def a24 (b : aa4) (a1 : Str) : Option Bool :=
  some (decide (b.Score = a1))
def ab4 (s_ : (List aa4)) (f : Str) (v5 : Int) : Option (Step Int Int) :=
  if (decide (v5 < (List.length s_ : Int))) then (ag1 s_ v5).bind fun x8 => (a24 x8 f).bind fun x9 => if x9 then some (.done v5) else some (.cont (wrap .i64 (v5 + 1))) else some (.done (-1))
def af3 (s_ : (List aa4)) (f : Str) : Option Int :=
  ae0 (fun s => ab4 s_ f s) 0
def aH7 (s_ : aa0) (score : Str) : Option Int :=
  (af3 s_.Blocks score).bind fun x1 => some x1
def aL8 (s_ : aa0) (kind : Int) (data : Str) : Option (aa0 × Str × Int) :=
  (aY2 s_).bind fun x1 => (ax0 kind).bind fun x2 => if (!x2) then some (x1,[],1) else if (decide (1024 < (List.length data : Int))) then some (x1,[],4) else (aF8 kind data).bind fun x5 => (aH7 s_ x5.Score).bind fun x6 => if (decide (0 ≤ x6)) then (ag1 s_.Blocks x6).bind fun x8 => if (!(decide (x8.Score = x5.Score) && (decide (x8.Kind = x5.Kind) && (decide (x8.Data = x5.Data) && true)))) then some (x1,[],34) else some (x1,x5.Score,0) else if (decide (s_.Cap ≤ (List.length s_.Blocks : Int))) then some (x1,[],22) else (aF3 40 x1.Blocks [x5]).bind fun x11 => some ((aa0.mk x1.Cap x11),x5.Score,0)
def aj6 (data : Str) (x1 : Int) (ai2 : (List Str)) (scores : Str) (v33 : aa0) (v34 : Str) : Option (Step (Int × aa0 × Str × (List Str)) (aa0 × as0 × Int)) :=
  if (decide ((List.length ai2 : Int) = 1)) then some (.done (v33,(as0.mk v34 (List.length data : Int) x1),0)) else (ar3 scores 1024).bind fun x42 => some (.cont (2,v33,v34,x42))
def aj7 (data : Str) (x1 : Int) (kind_1 : Int) (ai2 : (List Str)) (scores : Str) (v32 : Int) (v33 : aa0) (v34 : Str) : Option (Step (Str × Int × aa0 × Str) (Step (Int × aa0 × Str × (List Str)) (aa0 × as0 × Int))) :=
  if (decide (v32 < (List.length ai2 : Int))) then (ag1 ai2 v32).bind fun x37 => (aL8 v33 kind_1 x37).bind fun x38 => if (!decide (x38.2.2 = 0)) then some (.done (.done (v33,(as0.mk [] 0 0),x38.2.2))) else (bj8 scores x38.2.1).bind fun x40 => some (.cont (x40,(wrap .i64 (v32 + 1)),x38.1,x38.2.1)) else (aj6 data x1 ai2 scores v33 v34).map .done
def at6 (data : Str) (x1 : Int) (kind_1 : Int) (v22 : aa0) (v23 : Str) (ai2 : (List Str)) : Option (Step (Int × aa0 × Str × (List Str)) (aa0 × as0 × Int)) :=
  ae0 (fun s => aj7 data x1 kind_1 ai2 s.1 s.2.1 s.2.2.1 s.2.2.2) ([],0,v22,v23)
def aO9 (s_ : aa0) (kind : Int) (data : Str) : Option (aa0 × as0 × Int) :=
  (av9 (List.length data : Int)).bind fun x1 => (ar3 data 1024).bind fun x2 => ae0 (fun s => at6 data x1 s.1 s.2.1 s.2.2.1 s.2.2.2) (kind,s_,[],x2)
def am8 (x1 : (aa1 × Bool)) (p3 : Int) (p4 : Str) (p5 : aa0) : Option (aa0 × aa2 × Int) :=
  (aO9 p5 p3 p4).bind fun x6 => some (x6.1,(aa2.mk {x1.1 with Data := []} x6.2.1),x6.2.2)
def ag3 (rec_ : aa0 → aa3 → Int → Option (aa0 × aa2 × Int)) (t_ : aa3) (x1 : (aa1 × Bool)) (x9 : (List Int)) (data_1 : Str) (v17 : Int) (v18 : aa0) : Option (Step (Str × Int × aa0) (aa0 × aa2 × Int)) :=
  if (decide (v17 < (List.length x9 : Int))) then (ag1 x9 v17).bind fun x21 => (rec_ v18 t_ x21).bind fun x22 => if (!decide (x22.2.2 = 0)) then some (.done (v18,(aa2.mk (aa1.mk 0 0 0 [] 0 [] [] [] 0 0 []) (as0.mk [] 0 0)),x22.2.2)) else (av8 x22.2.1).bind fun x24 => (bj8 data_1 x24).bind fun x25 => some (.cont (x25,(wrap .i64 (v17 + 1)),x22.1)) else (am8 x1 3 data_1 v18).map .done
def ap2 (rec_ : aa0 → aa3 → Int → Option (aa0 × aa2 × Int)) (s_ : aa0) (t_ : aa3) (id : Int) : Option (aa0 × aa2 × Int) :=
  (aL6 t_ id).bind fun x1 => (af8 {x1.1 with Data := []}).bind fun x7 => if x7 then (aE3 t_ id).bind fun x9 => ae0 (fun s => ag3 rec_ t_ x1 x9 s.1 s.2.1 s.2.2) ([],0,s_) else am8 x1 1 x1.1.Data s_
def ai6 : Nat → aa0 → aa3 → Int → Option (aa0 × aa2 × Int)
  | 0,_,_,_ => none
  | n_ + 1,s_,t_,id => ap2 (ai6 n_) s_ t_ id
def at7 (s_ : aa0) (t_ : aa3) : Option (aa0 × Str × Int) :=
  (aA4 t_).bind fun x1 => if (!x1) then (aA5 s_).bind fun x3 => some (x3,[],1) else (ai6 16 s_ t_ 1).bind fun x4 => if (!decide (x4.2.2 = 0)) then (aA5 s_).bind fun x6 => some (x6,[],x4.2.2) else (at5 t_.Xz 4).bind fun x7 => (at5 (List.length t_.Nodes : Int) 4).bind fun x8 => (bj8 x7.1 x8.1).bind fun x9 => (av8 x4.2.1).bind fun x10 => (bj8 x9 x10).bind fun x11 => (aL8 x4.1 4 x11).bind fun x12 => if (!decide (x12.2.2 = 0)) then (aA5 s_).bind fun x14 => some (x14,[],x12.2.2) else some (x12.1,x12.2.1,0)
def au9 (s_ : ai3) (now : Int) : Option (ai3 × Int) :=
  if (decide (64 ≤ (List.length s_.Snaps : Int))) then (ai5 s_).bind fun x2 => some (x2,22) else (if (decide (now < 0)) then some true else if (decide (1099511627776 < now)) then some true else if (decide (0 < (List.length s_.Snaps : Int))) then (ag1 s_.Snaps (wrap .i64 ((List.length s_.Snaps : Int) - 1))).bind fun x6 => some (decide (now ≤ x6.Time)) else some false).bind fun t7 => if t7 then (ai5 s_).bind fun x9 => some (x9,1) else (at7 s_.Store s_.Files.Tree).bind fun x10 => if (!decide (x10.2.2 = 0)) then (ai5 s_).bind fun x12 => some (x12,x10.2.2) else (ai5 s_).bind fun x13 => (aF3 24 x13.Snaps [(ak9.mk now x10.2.1)]).bind fun x14 => some ((ai3.mk x13.Files x10.1 x14),0)
def ay4 (s_ : aa0) (v10 : Int) (v11 : Str) : Option (Step (Int × Str) Str) :=
  if (decide (v10 < (List.length s_.Blocks : Int))) then (ag1 s_.Blocks v10).bind fun x14 => (at5 x14.Kind 1).bind fun x15 => (at5 (List.length x14.Data : Int) 2).bind fun x16 => (bj8 [102,115,98,49] x15.1).bind fun x17 => (bj8 x17 x16.1).bind fun x18 => (bj8 x18 x14.Score).bind fun x19 => (bj8 x19 x14.Data).bind fun x20 => (bAdd v11 x20).bind fun x21 => some (.cont ((wrap .i64 (v10 + 1)),x21)) else some (.done v11)
def a25 (s_ : aa0) : Option Str :=
  ae0 (fun s => ay4 s_ s.1 s.2) (0,([] : Str))
def stringslite_HasPrefix (s_ : Str) (prefix_ : Str) : Option Bool :=
  (if (decide ((List.length prefix_ : Int) ≤ (List.length s_ : Int))) then (cut s_ 0 (List.length prefix_ : Int)).bind fun x2 => some (decide (x2 = prefix_)) else some false).bind fun t3 => some t3
def strings_HasPrefix (s_ : Str) (prefix_ : Str) : Option Bool :=
  (stringslite_HasPrefix s_ prefix_).bind fun x1 => some x1
def aP0 (at_ : Int) (width : Int) (n : Int) : Option (Int × Int × Int) :=
  if (decide (9223372036854775807 < n)) then some (0,0,5) else some ((wrap .i64 n),(wrap .i64 (at_ + width)),0)
def ay5 (s_ : Str) (at_ : Int) (width : Int) (n : Int) (i : Int) : Option (Step (Int × Int) (Int × Int × Int)) :=
  if (decide (0 ≤ i)) then (cb9 .u64 n 8).bind fun x14 => (aD4 s_ (wrap .i64 (at_ + i))).bind fun c15 => some (.cont ((wrap .u64 ((ofInt (IntKind.bits .u64) x14 ||| (ofInt (IntKind.bits .u64) (wrap .u64 (c15.toNat : Int)))).toNat : Nat)),(wrap .i64 (i - 1)))) else (aP0 at_ width n).map .done
def aH8 (s_ : Str) (at_ : Int) (width : Int) : Option (Int × Int × Int) :=
  if ((decide (width < 1)) || ((decide (8 < width)) || ((decide (at_ < 0)) || (decide ((List.length s_ : Int) < at_))))) then some (0,0,1) else if (decide ((wrap .i64 ((List.length s_ : Int) - at_)) < width)) then some (0,0,3) else ae0 (fun s => ay5 s_ at_ width s.1 s.2) (0,(wrap .i64 (width - 1)))
def aA7 (log : Str) : Option (Int × Int × Str × Bool) :=
  (if (decide ((List.length log : Int) < 39)) then some true else (strings_HasPrefix log [102,115,98,49]).bind fun x2 => some (!x2)).bind fun t3 => if t3 then some (0,0,[],false) else (aH8 log 4 1).bind fun x5 => (aH8 log x5.2.1 2).bind fun x6 => (cut log x6.2.1 (wrap .i64 (x6.2.1 + 32))).bind fun x7 => (ax0 x5.1).bind fun x8 => some (x5.1,x6.1,x7,(x8 && (decide (x6.1 ≤ 1024))))
def at8 (log : Str) : Option (aa4 × Bool) :=
  (aA7 log).bind fun x1 => if ((!x1.2.2.2) || (decide ((wrap .i64 ((List.length log : Int) - 39)) < x1.2.1))) then some ((aa4.mk [] 0 []),false) else (cut log 39 (wrap .i64 (39 + x1.2.1))).bind fun x5 => (aF8 x1.1 x5).bind fun x6 => some (x6,(decide (x6.Score = x1.2.2.1)))
def aB7 (x1 : aa0) (used : Int) (v11 : (List aa4)) : Option (aa0 × Int × Int) :=
  some ((aa0.mk x1.Cap v11),used,0)
def aK3 (log : Str) (x1 : aa0) (used : Int) (v11 : (List aa4)) : Option (aa0 × Int × Int) :=
  (cut log used (List.length log : Int)).bind fun x18 => (aA7 x18).bind fun x19 => if (x19.2.2.2 && (decide (x19.2.1 ≤ (wrap .i64 ((wrap .i64 ((List.length log : Int) - used)) - 39))))) then (cut log (wrap .i64 ((wrap .i64 (used + 39)) + x19.2.1)) (List.length log : Int)).bind fun x23 => (at8 x23).bind fun x24 => if x24.2 then some ((aa0.mk 0 ([] : List aa4)),0,34) else aB7 x1 used v11 else aB7 x1 used v11
def aB8 (used : Int) (v12 : (ap6 Str)) (x15 : (aa4 × Bool)) (p28 : (List aa4)) : Option (Step (Int × (List aa4) × (ap6 Str)) (aa0 × Int × Int)) :=
  some (.cont ((wrap .i64 (used + (wrap .i64 (39 + (List.length x15.1.Data : Int))))),p28,(a55 v12 x15.1.Score (wrap .i64 ((aq8 v12 x15.1.Score) + 1)))))
def aw0 (log : Str) (x1 : aa0) (used : Int) (v11 : (List aa4)) (v12 : (ap6 Str)) : Option (Step (Int × (List aa4) × (ap6 Str)) (aa0 × Int × Int)) :=
  (cut log used (List.length log : Int)).bind fun x14 => (at8 x14).bind fun x15 => if (!x15.2) then (aK3 log x1 used v11).map .done else if (decide ((aq8 v12 x15.1.Score) = 0)) then if (decide (x1.Cap ≤ (List.length v11 : Int))) then some (.done ((aa0.mk 0 ([] : List aa4)),0,22)) else (aF3 40 v11 [x15.1]).bind fun x31 => aB8 used v12 x15 x31 else aB8 used v12 x15 v11
def aL9 (log : Str) (most : Int) : Option (aa0 × Int × Int) :=
  (aS3 most).bind fun x1 => ae0 (fun s => aw0 log x1 s.1 s.2.1 s.2.2) (0,x1.Blocks,(([],0) : ap6 Str))
def ay6 (s_ : aa0) (n : Int) (v4 : Int) : Option (Step (Int × Int) Int) :=
  if (decide (v4 < (List.length s_.Blocks : Int))) then (ag1 s_.Blocks v4).bind fun x7 => some (.cont ((wrap .i64 (n + (wrap .i64 (39 + (List.length x7.Data : Int))))),(wrap .i64 (v4 + 1)))) else some (.done n)
def aM0 (s_ : aa0) : Option Int :=
  ae0 (fun s => ay6 s_ s.1 s.2) (0,0)
def am9 (a : aa0) (b : aa0) (v8 : Int) : Option (Step Int Bool) :=
  if (decide (v8 < (List.length a.Blocks : Int))) then (ag1 a.Blocks v8).bind fun x11 => (ag1 b.Blocks v8).bind fun x12 => if (!(decide (x11.Score = x12.Score) && (decide (x11.Kind = x12.Kind) && (decide (x11.Data = x12.Data) && true)))) then some (.done false) else some (.cont (wrap .i64 (v8 + 1))) else some (.done true)
def at9 (a : aa0) (b : aa0) : Option Bool :=
  if ((!decide (a.Cap = b.Cap)) || (!decide ((List.length a.Blocks : Int) = (List.length b.Blocks : Int)))) then some false else ae0 (fun s => am9 a b s) 0
def aK4 (s_ : ai3) (time : Int) (i : Int) : Option (Step Int (ak9 × Bool)) :=
  if (decide (0 ≤ i)) then (ag1 s_.Snaps i).bind fun x8 => if (decide (x8.Time ≤ time)) then (ag1 s_.Snaps i).bind fun x10 => some (.done (x10,true)) else some (.cont (wrap .i64 (i - 1))) else some (.done ((ak9.mk 0 []),false))
def aP1 (s_ : ai3) (time : Int) : Option (ak9 × Bool) :=
  ae0 (fun s => aK4 s_ time s) (wrap .i64 ((List.length s_.Snaps : Int) - 1))
def aq6 (s_ : aa0) : Option (aa0 × (List Str)) :=
  some (s_,([] : List Str))
def a26 (s_ : aa0) (score : Str) (kind : Int) : Option (Str × Int) :=
  (aH7 s_ score).bind fun x1 => if (decide (x1 < 0)) then some ([],35) else (ag1 s_.Blocks x1).bind fun x3 => if (!decide (x3.Kind = kind)) then some ([],1) else (ag1 s_.Blocks x1).bind fun x5 => (ag1 s_.Blocks x1).bind fun x6 => (aF8 kind x6.Data).bind fun x7 => if (!(decide (x5.Score = x7.Score) && (decide (x5.Kind = x7.Kind) && (decide (x5.Data = x7.Data) && true)))) then some ([],34) else (ag1 s_.Blocks x1).bind fun x9 => some (x9.Data,0)
def aj5 (score : Str) (store : aa0) (l : (List Str)) (x1 : (Str × Int)) (p3 : Int) : Option (Str × Int × aa0 × (List Str)) :=
  if (!decide (p3 = 0)) then some ([],p3,store,l) else (aF3 16 l [score]).bind fun x5 => some (x1.1,0,store,x5)
def af4 (score : Str) (kind : Int) (store : aa0) (l : (List Str)) : Option (Str × Int × aa0 × (List Str)) :=
  (a26 store score kind).bind fun x1 => if (decide (x1.2 = 1)) then aj5 score store l x1 2 else aj5 score store l x1 x1.2
def aa7 (width : Int) (v : aa6) : Option (Int × aa6) :=
  (aH8 v.s v.at_ width).bind fun x1 => if (v.bad || (!decide (x1.2.2 = 0))) then some (0,{v with bad := true}) else some (x1.1,{v with at_ := x1.2.1})
def aE6 (s_ : Str) (at_ : Int) : Option (Str × Int × Int) :=
  (aH8 s_ at_ 2).bind fun x1 => if (!decide (x1.2.2 = 0)) then some ([],0,x1.2.2) else if (decide ((wrap .i64 ((List.length s_ : Int) - x1.2.1)) < x1.1)) then some ([],0,3) else (cut s_ x1.2.1 (wrap .i64 (x1.2.1 + x1.1))).bind fun x4 => some (x4,(wrap .i64 (x1.2.1 + x1.1)),0)
def ae5 (v : aa6) : Option (Str × aa6) :=
  (aE6 v.s v.at_).bind fun x1 => if (v.bad || (!decide (x1.2.2 = 0))) then some ([],{v with bad := true}) else some (x1.1,{v with at_ := x1.2.1})
def ai7 (v : aa6) : Option (Str × aa6) :=
  if (v.bad || (decide ((wrap .i64 ((List.length v.s : Int) - v.at_)) < 32))) then some ([],{v with bad := true}) else (cut v.s (wrap .i64 ((wrap .i64 (v.at_ + 32)) - 32)) (wrap .i64 (v.at_ + 32))).bind fun x4 => some (x4,{v with at_ := wrap .i64 (v.at_ + 32)})
def ag6 (v : aa6) : Option (aa2 × aa6) :=
  (aa7 4 v).bind fun x1 => (aa7 4 x1.2).bind fun x2 => (aa7 4 x2.2).bind fun x3 => (aa7 4 x3.2).bind fun x4 => (aa7 8 x4.2).bind fun x5 => (aa7 8 x5.2).bind fun x6 => (ae5 x6.2).bind fun x7 => (ae5 x7.2).bind fun x8 => (ae5 x8.2).bind fun x9 => (ae5 x9.2).bind fun x10 => (aa7 4 x10.2).bind fun x11 => (aa7 1 x11.2).bind fun x12 => (ai7 x12.2).bind fun x13 => some ((aa2.mk (aa1.mk x1.1 x2.1 x3.1 x7.1 x4.1 x8.1 x9.1 x10.1 x5.1 x6.1 []) (as0.mk x13.1 x11.1 x12.1)),x13.2)
def aE7 (r_ : as0) : Option Bool :=
  (if (decide ((List.length r_.Score : Int) = 32)) then if (decide (0 ≤ r_.Length)) then if (decide (r_.Length ≤ 1048576)) then (av9 r_.Length).bind fun x4 => some (decide (r_.Levels = x4)) else some false else some false else some false).bind fun t5 => some t5
def ah8 (p : ah2) (level : Int) (i : Int) : Option Int :=
  if (decide (level = 0)) then some (min 1024 (wrap .i64 (p.length - (wrap .i64 (i * 1024))))) else (ak7 p.length (wrap .i64 (level - 1))).bind fun x2 => some (wrap .i64 (32 * (min 32 (wrap .i64 (x2 - (wrap .i64 (i * 32)))))))
def ar1 (level : Int) (n : Int) (v3 : Int) : Option (Step (Int × Int) Int) :=
  if (decide (v3 < level)) then some (.cont ((wrap .i64 (n * 32)),(wrap .i64 (v3 + 1)))) else some (.done n)
def an0 (level : Int) : Option Int :=
  ae0 (fun s => ar1 level s.1 s.2) (1024,0)
def ah5 (rec_ : ah2 → Str → Int → Int → aa0 → (List Str) → Option (Str × Int × aa0 × (List Str))) (p : ah2) (level : Int) (i : Int) (x3 : (Str × Int × aa0 × (List Str))) (out : Str) (v21 : Int) (v22 : Int) (v23 : (List aa4)) (v24 : (List Str)) : Option (Step (Str × Int × Int × (List aa4) × (List Str)) (Str × Int × aa0 × (List Str))) :=
  if (decide (v21 < (wrap .i64 (tdiv (List.length x3.1 : Int) 32)))) then (an0 (wrap .i64 (level - 1))).bind fun x27 => (if (decide (p.hi ≤ (wrap .i64 ((wrap .i64 ((wrap .i64 (i * 32)) + v21)) * x27)))) then some true else (an0 (wrap .i64 (level - 1))).bind fun x29 => some (decide ((wrap .i64 ((wrap .i64 ((wrap .i64 ((wrap .i64 (i * 32)) + v21)) * x27)) + x29)) ≤ p.lo))).bind fun t30 => if t30 then some (.cont (out,(wrap .i64 (v21 + 1)),v22,v23,v24)) else (cut x3.1 (wrap .i64 (v21 * 32)) (wrap .i64 ((wrap .i64 (v21 + 1)) * 32))).bind fun x32 => (rec_ p x32 (wrap .i64 (level - 1)) (wrap .i64 ((wrap .i64 (i * 32)) + v21)) (aa0.mk v22 v23) v24).bind fun x33 => if (!decide (x33.2.1 = 0)) then some (.done ([],x33.2.1,x33.2.2.1,x33.2.2.2)) else (bj8 out x33.1).bind fun x35 => some (.cont (x35,(wrap .i64 (v21 + 1)),x33.2.2.1.Cap,x33.2.2.1.Blocks,x33.2.2.2)) else some (.done (out,0,(aa0.mk v22 v23),v24))
def ah9 (rec_ : ah2 → Str → Int → Int → aa0 → (List Str) → Option (Str × Int × aa0 × (List Str))) (p : ah2) (score : Str) (level : Int) (i : Int) (store : aa0) (l : (List Str)) (p2 : Int) : Option (Str × Int × aa0 × (List Str)) :=
  (af4 score p2 store l).bind fun x3 => if (!decide (x3.2.1 = 0)) then some ([],x3.2.1,x3.2.2.1,x3.2.2.2) else (ah8 p level i).bind fun x5 => if (!decide ((List.length x3.1 : Int) = x5)) then some ([],2,x3.2.2.1,x3.2.2.2) else (an0 level).bind fun x7 => if (decide (level = 0)) then (cut x3.1 (max 0 (wrap .i64 (p.lo - (wrap .i64 (i * x7))))) (min (List.length x3.1 : Int) (wrap .i64 (p.hi - (wrap .i64 (i * x7)))))).bind fun x9 => some (x9,0,x3.2.2.1,x3.2.2.2) else ae0 (fun s => ah5 rec_ p level i x3 s.1 s.2.1 s.2.2.1 s.2.2.2.1 s.2.2.2.2) ([],0,x3.2.2.1.Cap,x3.2.2.1.Blocks,x3.2.2.2)
def al1 (rec_ : ah2 → Str → Int → Int → aa0 → (List Str) → Option (Str × Int × aa0 × (List Str))) (p : ah2) (score : Str) (level : Int) (i : Int) (store : aa0) (l : (List Str)) : Option (Str × Int × aa0 × (List Str)) :=
  if (decide (level = 0)) then ah9 rec_ p score level i store l p.kind else ah9 rec_ p score level i store l 2
def ag4 : Nat → ah2 → Str → Int → Int → aa0 → (List Str) → Option (Str × Int × aa0 × (List Str))
  | 0,_,_,_,_,_,_ => none
  | n_ + 1,p,score,level,i,store,l => al1 (ag4 n_) p score level i store l
def af0 (r_ : as0) (kind : Int) (store : aa0) (l : (List Str)) : Option (Str × Int × aa0 × (List Str)) :=
  (aE7 r_).bind fun x1 => if (!x1) then some ([],2,store,l) else if (decide (r_.Length = 0)) then (af4 r_.Score kind store l).bind fun x4 => if ((decide (x4.2.1 = 0)) && (!decide (x4.1 = []))) then some ([],2,x4.2.2.1,x4.2.2.2) else some ([],x4.2.1,x4.2.2.1,x4.2.2.2) else (ag4 16 (ah2.mk kind r_.Length 0 r_.Length) r_.Score r_.Levels 0 store l).bind fun x8 => some (x8.1,x8.2.1,x8.2.2.1,x8.2.2.2)
def ak4 (s_ : Str) (v6 : aa6) (out : (List aa2)) : Option (Step (aa6 × (List aa2)) ((List aa2) × Bool)) :=
  if ((decide (v6.at_ < (List.length s_ : Int))) && (!v6.bad)) then (ag6 v6).bind fun x12 => (aF3 160 out [x12.1]).bind fun x13 => some (.cont (x12.2,x13)) else some (.done (out,(!v6.bad)))
def au0 (s_ : Str) : Option ((List aa2) × Bool) :=
  ae0 (fun s => ak4 s_ s.1 s.2) ((aa6.mk s_ 0 false),([] : List aa2))
def au1 (k : aa2) (a1 : aa2) : Option Bool :=
  some (!decide (k.node.Parent = a1.node.Id))
def aa8 (s_ : (List aa2)) (f : aa2) (v5 : Int) : Option (Step Int Int) :=
  if (decide (v5 < (List.length s_ : Int))) then (ag1 s_ v5).bind fun x8 => (au1 x8 f).bind fun x9 => if x9 then some (.done v5) else some (.cont (wrap .i64 (v5 + 1))) else some (.done (-1))
def ae2 (s_ : (List aa2)) (f : aa2) : Option Int :=
  ae0 (fun s => aa8 s_ f s) 0
def ab2 (s_ : (List aa2)) (f : aa2) : Option Bool :=
  (ae2 s_ f).bind fun x1 => some (decide (0 ≤ x1))
def ad3 (rec_ : aa2 → Int → aa0 → (List Str) → (List aa1) → Option (Int × Int × aa0 × (List aa1) × (List Str))) (x10 : ((List aa2) × Bool)) (v19 : Int) (v20 : Int) (v21 : Int) (v22 : (List aa4)) (v23 : (List Str)) (v24 : (List aa1)) : Option (Step (Int × Int × Int × (List aa4) × (List Str) × (List aa1)) (Int × Int × aa0 × (List aa1) × (List Str))) :=
  if (decide (v19 < (List.length x10.1 : Int))) then (ag1 x10.1 v19).bind fun x27 => (rec_ x27 v20 (aa0.mk v21 v22) v23 v24).bind fun x28 => if (!decide (x28.1 = 0)) then some (.done (x28.1,x28.2.1,x28.2.2.1,x28.2.2.2.1,x28.2.2.2.2)) else some (.cont ((wrap .i64 (v19 + 1)),x28.2.1,x28.2.2.1.Cap,x28.2.2.1.Blocks,x28.2.2.2.2,x28.2.2.2.1)) else some (.done (0,v20,(aa0.mk v21 v22),v24,v23))
def ad8 (rec_ : aa2 → Int → aa0 → (List Str) → (List aa1) → Option (Int × Int × aa0 × (List aa1) × (List Str))) (x_ : aa2) (most : Int) (store : aa0) (l : (List Str)) (l' : (List aa1)) (p3 : Int) : Option (Int × Int × aa0 × (List aa1) × (List Str)) :=
  (af0 x_.root p3 store l).bind fun x4 => if (!decide (x4.2.1 = 0)) then some (x4.2.1,most,x4.2.2.1,l',x4.2.2.2) else (af8 x_.node).bind fun x6 => if (!x6) then (aF3 128 l' [{x_.node with Data := x4.1}]).bind fun x8 => some (0,most,x4.2.2.1,x8,x4.2.2.2) else (aF3 128 l' [x_.node]).bind fun x9 => (au0 x4.1).bind fun x10 => (if (!x10.2) then some true else (ab2 x10.1 x_).bind fun x12 => some x12).bind fun t13 => if t13 then some (2,most,x4.2.2.1,x9,x4.2.2.2) else ae0 (fun s => ad3 rec_ x10 s.1 s.2.1 s.2.2.1 s.2.2.2.1 s.2.2.2.2.1 s.2.2.2.2.2) (0,most,x4.2.2.1.Cap,x4.2.2.1.Blocks,x4.2.2.2,x9)
def ag8 (rec_ : aa2 → Int → aa0 → (List Str) → (List aa1) → Option (Int × Int × aa0 × (List aa1) × (List Str))) (x_ : aa2) (most : Int) (store : aa0) (l : (List Str)) (l' : (List aa1)) : Option (Int × Int × aa0 × (List aa1) × (List Str)) :=
  if (decide (most ≤ (List.length l' : Int))) then some (2,most,store,l',l) else (af8 x_.node).bind fun x30 => if x30 then ad8 rec_ x_ most store l l' 3 else ad8 rec_ x_ most store l l' 1
def ac3 : Nat → aa2 → Int → aa0 → (List Str) → (List aa1) → Option (Int × Int × aa0 × (List aa1) × (List Str))
  | 0,_,_,_,_,_ => none
  | n_ + 1,x_,most,store,l,l' => ag8 (ac3 n_) x_ most store l l'
def aw1 (x10 : ((List aa2) × Bool)) (v19 : Int) (v20 : Int) (v21 : Int) (v22 : (List aa4)) (v23 : (List Str)) (v24 : (List aa1)) : Option (Step (Int × Int × Int × (List aa4) × (List Str) × (List aa1)) (Int × Int × aa0 × (List aa1) × (List Str))) :=
  if (decide (v19 < (List.length x10.1 : Int))) then (ag1 x10.1 v19).bind fun x27 => (ac3 16 x27 v20 (aa0.mk v21 v22) v23 v24).bind fun x28 => if (!decide (x28.1 = 0)) then some (.done (x28.1,x28.2.1,x28.2.2.1,x28.2.2.2.1,x28.2.2.2.2)) else some (.cont ((wrap .i64 (v19 + 1)),x28.2.1,x28.2.2.1.Cap,x28.2.2.1.Blocks,x28.2.2.2.2,x28.2.2.2.1)) else some (.done (0,v20,(aa0.mk v21 v22),v24,v23))
def ap3 (x_ : aa2) (most : Int) (store : aa0) (l : (List Str)) (p3 : Int) : Option (Int × Int × aa0 × (List aa1) × (List Str)) :=
  (af0 x_.root p3 store l).bind fun x4 => if (!decide (x4.2.1 = 0)) then some (x4.2.1,most,x4.2.2.1,([] : List aa1),x4.2.2.2) else (af8 x_.node).bind fun x6 => if (!x6) then (aF3 128 ([] : List aa1) [{x_.node with Data := x4.1}]).bind fun x8 => some (0,most,x4.2.2.1,x8,x4.2.2.2) else (aF3 128 ([] : List aa1) [x_.node]).bind fun x9 => (au0 x4.1).bind fun x10 => (if (!x10.2) then some true else (ab2 x10.1 x_).bind fun x12 => some x12).bind fun t13 => if t13 then some (2,most,x4.2.2.1,x9,x4.2.2.2) else ae0 (fun s => aw1 x10 s.1 s.2.1 s.2.2.1 s.2.2.2.1 s.2.2.2.2.1 s.2.2.2.2.2) (0,most,x4.2.2.1.Cap,x4.2.2.1.Blocks,x4.2.2.2,x9)
def ay7 (rec_ : aa2 → Int → aa0 → (List Str) → Option (Int × Int × aa0 × (List aa1) × (List Str))) (x_ : aa2) (most : Int) (store : aa0) (l : (List Str)) : Option (Int × Int × aa0 × (List aa1) × (List Str)) :=
  if (decide (most ≤ (0 : Int))) then some (2,most,store,([] : List aa1),l) else (af8 x_.node).bind fun x30 => if x30 then ap3 x_ most store l 3 else ap3 x_ most store l 1
def an1 : Nat → aa2 → Int → aa0 → (List Str) → Option (Int × Int × aa0 × (List aa1) × (List Str))
  | 0,_,_,_,_ => none
  | n_ + 1,x_,most,store,l => ay7 (an1 n_) x_ most store l
def as3 (p8 : Int) (p9 : Int) : Option Int :=
  (aD4 [0,1,2,2,3,3,3,3,4,4,4,4,4,4,4,4,5,5,5,5,5,5,5,5,5,5,5,5,5,5,5,5,6,6,6,6,6,6,6,6,6,6,6,6,6,6,6,6,6,6,6,6,6,6,6,6,6,6,6,6,6,6,6,6,7,7,7,7,7,7,7,7,7,7,7,7,7,7,7,7,7,7,7,7,7,7,7,7,7,7,7,7,7,7,7,7,7,7,7,7,7,7,7,7,7,7,7,7,7,7,7,7,7,7,7,7,7,7,7,7,7,7,7,7,7,7,7,7,8,8,8,8,8,8,8,8,8,8,8,8,8,8,8,8,8,8,8,8,8,8,8,8,8,8,8,8,8,8,8,8,8,8,8,8,8,8,8,8,8,8,8,8,8,8,8,8,8,8,8,8,8,8,8,8,8,8,8,8,8,8,8,8,8,8,8,8,8,8,8,8,8,8,8,8,8,8,8,8,8,8,8,8,8,8,8,8,8,8,8,8,8,8,8,8,8,8,8,8,8,8,8,8,8,8,8,8,8,8,8,8,8,8,8,8,8,8,8,8,8,8,8,8,8,8,8,8] (wrap .u8 p8)).bind fun c10 => some (wrap .i64 (p9 + (wrap .i64 (c10.toNat : Int))))
def as4 (p5 : Int) (p6 : Int) : Option Int :=
  if (decide (256 ≤ p5)) then (bq8 .u64 p5 8).bind fun x12 => as3 x12 (wrap .i64 (p6 + 8)) else as3 p5 p6
def as5 (p2 : Int) (p3 : Int) : Option Int :=
  if (decide (65536 ≤ p2)) then (bq8 .u64 p2 16).bind fun x14 => as4 x14 (wrap .i64 (p3 + 16)) else as4 p2 p3
def aH9 (x_ : Int) : Option Int :=
  if (decide (4294967296 ≤ x_)) then (bq8 .u64 x_ 32).bind fun x16 => as5 x16 32 else as5 x_ 0
def aE8 (x_ : Int) : Option Int :=
  (aH9 x_).bind fun x1 => some x1
def aE9 (x_ : Int) : Option Bool :=
  some (!decide (x_ = x_))
def aI0 (x_ : Int) (y : Int) : Option Int :=
  (aE9 x_).bind fun x1 => (aE9 y).bind fun x2 => if x1 then if x2 then some 0 else some (-1) else if x2 then some 1 else if (decide (x_ < y)) then some (-1) else if (decide (y < x_)) then some 1 else some 0
def an2 (m : aa1) (n : aa1) : Option Int :=
  (aI0 m.Id n.Id).bind fun x1 => some x1
def ab0 (a : Int) (i : Int) (j : Int) (data_1 : (List aa1)) : Option (Step (Int × (List aa1)) (Step (Int × (List aa1)) (List aa1))) :=
  (if (decide (a < j)) then (ag1 data_1 j).bind fun x43 => (ag1 data_1 (wrap .i64 (j - 1))).bind fun x44 => (an2 x43 x44).bind fun x45 => some (decide (x45 < 0)) else some false).bind fun t46 => if t46 then (ag1 data_1 (wrap .i64 (j - 1))).bind fun x48 => (ag1 data_1 j).bind fun x49 => (ag1 data_1 j).bind fun x50 => (ag1 (set data_1 (Int.toNat j) x48) (wrap .i64 (j - 1))).bind fun x51 => some (.cont ((wrap .i64 (j - 1)),(set (set data_1 (Int.toNat j) x48) (Int.toNat (wrap .i64 (j - 1))) x49))) else some (.done (.cont ((wrap .i64 (i + 1)),data_1)))
def ab1 (a : Int) (b : Int) (i : Int) (data : (List aa1)) : Option (Step (Int × (List aa1)) (List aa1)) :=
  if (decide (i < b)) then ae0 (fun s => ab0 a i s.1 s.2) (i,data) else some (.done data)
def ab9 (a : Int) (b : Int) (l : (List aa1)) : Option (List aa1) :=
  ae0 (fun s => ab1 a b s.1 s.2) ((wrap .i64 (a + 1)),l)
def af9 (a : Int) (b : Int) (limit : Int) (l : (List aa1)) : Option (Step Unit (List aa1)) :=
  if (decide ((wrap .i64 (b - a)) ≤ 12)) then (aS1 (ab9 a b l) (fun r => r) l).bind fun x3 => some (.done x3) else if (decide (limit = 0)) then none else none
def ad0 (a : Int) (b : Int) (limit : Int) (l : (List aa1)) : Option (List aa1) :=
  ae0 (fun (_ : Unit) => af9 a b limit l) ()
def ac5 (l : (List aa1)) : Option (List aa1) :=
  (aE8 (wrap .u64 (List.length l : Int))).bind fun x1 => (aS1 (ad0 0 (List.length l : Int) x1 l) (fun r => r) l).bind fun x2 => some x2
def an3 (score : Str) (store : aa0) (l : (List Str)) : Option (aa3 × Int × aa0 × (List Str)) :=
  (af4 score 4 store l).bind fun x1 => if (!decide (x1.2.1 = 0)) then some ((aa3.mk 0 ([] : List aa1)),x1.2.1,x1.2.2.1,x1.2.2.2) else (aa7 4 (aa6.mk x1.1 0 false)).bind fun x3 => (aa7 4 x3.2).bind fun x4 => (ag6 x4.2).bind fun x5 => if (x5.2.bad || ((!decide (x5.2.at_ = (List.length x1.1 : Int))) || ((decide (x4.1 < 1)) || (decide (1024 < x4.1))))) then some ((aa3.mk 0 ([] : List aa1)),2,x1.2.2.1,x1.2.2.2) else (an1 16 x5.1 x4.1 x1.2.2.1 x1.2.2.2).bind fun x11 => if (!decide (x11.1 = 0)) then some ((aa3.mk 0 ([] : List aa1)),x11.1,x11.2.2.1,x11.2.2.2.2) else (aS1 (ac5 x11.2.2.2.1) (fun r => r) x11.2.2.2.1).bind fun x13 => (if (!decide ((List.length x13 : Int) = x4.1)) then some true else (aA4 (aa3.mk x3.1 x13)).bind fun x15 => some (!x15)).bind fun t16 => if t16 then some ((aa3.mk 0 ([] : List aa1)),2,x11.2.2.1,x11.2.2.2.2) else some ((aa3.mk x3.1 x13),0,x11.2.2.1,x11.2.2.2.2)
def au2 (s_ : aa0) (score : Str) : Option (aa3 × Int) :=
  (aq6 s_).bind fun x1 => (an3 score x1.1 x1.2).bind fun x2 => some (x2.1,x2.2.1)
def ay8 (s_ : ai3) (time : Int) : Option (aa3 × Int) :=
  (aP1 s_ time).bind fun x1 => if (!x1.2) then some ((aa3.mk 0 ([] : List aa1)),8) else (au2 s_.Store x1.1.Score).bind fun x3 => some (x3.1,x3.2)
def ay9 (a : aa3) (b : aa3) (i : Int) : Option (Step Int Bool) :=
  if (decide (i < (List.length a.Nodes : Int))) then (ag1 a.Nodes i).bind fun x11 => (ag1 b.Nodes i).bind fun x12 => if (!(decide (x11.Id = x12.Id) && (decide (x11.Parent = x12.Parent) && (decide (x11.Vers = x12.Vers) && (decide (x11.Mz = x12.Mz) && (decide (x11.Mode = x12.Mode) && (decide (x11.Uid = x12.Uid) && (decide (x11.Gid = x12.Gid) && (decide (x11.Muid = x12.Muid) && (decide (x11.Atime = x12.Atime) && (decide (x11.Mtime = x12.Mtime) && (decide (x11.Data = x12.Data) && true)))))))))))) then some (.done false) else some (.cont (wrap .i64 (i + 1))) else some (.done true)
def aU4 (a : aa3) (b : aa3) : Option Bool :=
  if ((!decide (a.Xz = b.Xz)) || (!decide ((List.length a.Nodes : Int) = (List.length b.Nodes : Int)))) then some false else ae0 (fun s => ay9 a b s) 0
def aw2 (name : Str) (v16 : Int) : Option (Step Int Bool) :=
  if (decide (v16 < (List.length name : Int))) then (aD4 name v16).bind fun c19 => if ((!((decide (97 ≤ (c19.toNat : Int))) && (decide ((c19.toNat : Int) ≤ 122)))) && ((decide (v16 = 0)) || (!(bif (decide (48 ≤ (c19.toNat : Int))) then ((decide ((c19.toNat : Int) ≤ 57)) || ((decide ((c19.toNat : Int) = 45)) || (decide ((c19.toNat : Int) = 95)))) else ((decide ((c19.toNat : Int) = 45)) || (decide ((c19.toNat : Int) = 95))))))) then some (.done false) else some (.cont (wrap .i64 (v16 + 1))) else some (.done true)
def aM1 (name : Str) : Option Bool :=
  if ((decide (name = [])) || (decide (32 < (List.length name : Int)))) then some false else ae0 (fun s => aw2 name s) 0
def ap4 (l : (List Str)) (m : (ap6 Str)) (v4 : Int) : Option (Step Int (Int × (ap6 Str))) :=
  if (decide (v4 < (List.length l : Int))) then (ag1 l v4).bind fun x7 => if (decide ((aq8 m x7) = 0)) then some (.done (26,m)) else (if (decide (0 < v4)) then (ag1 l (wrap .i64 (v4 - 1))).bind fun x10 => some (!blt x10 x7) else some false).bind fun t11 => if t11 then some (.done (26,m)) else some (.cont (wrap .i64 (v4 + 1))) else some (.done (0,m))
def aw3 (l : (List Str)) (m : (ap6 Str)) : Option (Int × (ap6 Str)) :=
  ae0 (fun s => ap4 l m s) 0
def ar4 (l : (List ab7)) (v19 : Int) (v20 : (ap6 Str)) (v21 : (ap6 Str)) : Option (Step (Int × (ap6 Str) × (ap6 Str)) Int) :=
  if (decide (v19 < (List.length l : Int))) then (ag1 l v19).bind fun x24 => (aM1 x24.Mz).bind fun x25 => if (!x25) then some (.done 25) else if (decide (0 < (aq8 v21 x24.Mz))) then some (.done 7) else if ((!decide (x24.Leader = [])) && (decide ((aq8 v20 x24.Leader) = 0))) then some (.done 26) else (aw3 x24.Members v20).bind fun x31 => if (!decide (x31.1 = 0)) then some (.done x31.1) else some (.cont ((wrap .i64 (v19 + 1)),x31.2,(a55 v21 x24.Mz (wrap .i64 ((aq8 v21 x24.Mz) + 1))))) else some (.done 0)
def az0 (l : (List ab7)) (v4 : Int) (v5 : (ap6 Str)) : Option (Step (Int × (ap6 Str)) Int) :=
  if (decide (v4 < (List.length l : Int))) then (ag1 l v4).bind fun x8 => some (.cont ((wrap .i64 (v4 + 1)),(a55 v5 x8.Mz (wrap .i64 ((aq8 v5 x8.Mz) + 1))))) else (ae0 (fun s => ar4 l s.1 s.2.1 s.2.2) (0,v5,(([],0) : ap6 Str))).map .done
def aU5 (l : (List ab7)) : Option Int :=
  if (decide (64 < (List.length l : Int))) then some 22 else ae0 (fun s => az0 l s.1 s.2) (0,(([],0) : ap6 Str))
def au3 (l : (List af7)) (v9 : Int) : Option (Step Int Int) :=
  if (decide (v9 < (List.length l : Int))) then (ag1 l v9).bind fun x12 => (aM1 x12.Uz).bind fun x13 => if (!x13) then some (.done 25) else (if (decide (0 < v9)) then (ag1 l (wrap .i64 (v9 - 1))).bind fun x16 => some (blt x12.Uz x16.Uz || decide (x12.Uz = x16.Uz)) else some false).bind fun t17 => if t17 then some (.done 2) else if ((decide ((min x12.Files x12.Bytes) < 0)) || (decide (9007199254740991 < (max x12.Files x12.Bytes)))) then some (.done 5) else some (.cont (wrap .i64 (v9 + 1))) else some (.done 0)
def aP2 (l : (List af7)) : Option Int :=
  if (decide (64 < (List.length l : Int))) then some 22 else ae0 (fun s => au3 l s) 0
def aw6 (mode : Int) (bit : Int) : Option Bool :=
  some ((decide (0 ≤ mode)) && (!decide ((wrap .i64 ((ofInt (IntKind.bits .i64) mode &&& (ofInt (IntKind.bits .i64) bit)).toNat : Nat)) = 0)))
def ap5 (s_ : ab6) (last : Int) (v17 : Int) : Option (Step (Int × Int) Bool) :=
  if (decide (v17 < (List.length s_.Excl : Int))) then (ag1 s_.Excl v17).bind fun x20 => (aL6 s_.Tree x20).bind fun x21 => (if (!x21.2) then some true else (aw6 x21.1.Mode 536870912).bind fun x23 => if (!x23) then some true else some (decide (x20 ≤ last))).bind fun t25 => if t25 then some (.done false) else some (.cont (x20,(wrap .i64 (v17 + 1)))) else some (.done true)
def az1 (s_ : ab6) : Option Bool :=
  (aU5 s_.Users).bind fun x1 => (if (!decide (x1 = 0)) then some true else (aP2 s_.Quotas).bind fun x3 => if (!decide (x3 = 0)) then some true else (aA4 s_.Tree).bind fun x5 => some (!x5)).bind fun t6 => if t6 then some false else ae0 (fun s => ap5 s_ s.1 s.2) (0,0)
def au4 (s_ : aa0) (v13 : Int) (v14 : (ap6 Str)) : Option (Step (Int × (ap6 Str)) Bool) :=
  if (decide (v13 < (List.length s_.Blocks : Int))) then (ag1 s_.Blocks v13).bind fun x17 => (ax0 x17.Kind).bind fun x18 => if ((!x18) || ((decide (1024 < (List.length x17.Data : Int))) || ((!decide ((List.length x17.Score : Int) = 32)) || (decide (0 < (aq8 v14 x17.Score)))))) then some (.done false) else some (.cont ((wrap .i64 (v13 + 1)),(a55 v14 x17.Score (wrap .i64 ((aq8 v14 x17.Score) + 1))))) else some (.done true)
def aI1 (s_ : aa0) : Option Bool :=
  if ((decide (s_.Cap < 1)) || ((decide (4096 < s_.Cap)) || (decide (s_.Cap < (List.length s_.Blocks : Int))))) then some false else ae0 (fun s => au4 s_ s.1 s.2) (0,(([],0) : ap6 Str))
def as6 (s_ : ai3) (last : Int) (v18 : Int) : Option (Step (Int × Int) Bool) :=
  if (decide (v18 < (List.length s_.Snaps : Int))) then (ag1 s_.Snaps v18).bind fun x21 => if ((decide (x21.Time ≤ last)) || (decide (1099511627776 < x21.Time))) then some (.done false) else (au2 s_.Store x21.Score).bind fun x25 => (if (!decide (x25.2 = 0)) then some true else (aA4 x25.1).bind fun x27 => some (!x27)).bind fun t28 => if t28 then some (.done false) else some (.cont (x21.Time,(wrap .i64 (v18 + 1)))) else some (.done true)
def aB9 (s_ : ai3) : Option Bool :=
  (az1 s_.Files).bind fun x1 => (if (!x1) then some true else (aI1 s_.Store).bind fun x3 => if (!x3) then some true else some (decide (64 < (List.length s_.Snaps : Int)))).bind fun t5 => if t5 then some false else ae0 (fun s => as6 s_ s.1 s.2) ((-1),0)
def aJ3 (f : ab6) (now : Int) : Option Bool :=
  (aO2 f.Tree).bind fun x1 => (if (!x1) then some true else if (decide (70 < (List.length f.Users : Int))) then some true else if (decide (70 < (List.length f.Quotas : Int))) then some true else if (decide (20 < (List.length f.Excl : Int))) then some true else (aH4 f).bind fun x6 => some (!x6)).bind fun t7 => if t7 then (av3).bind fun x9 => some x9 else (ax3 f 400).bind fun x10 => (au9 x10 now).bind fun x11 => if (!decide (x11.2 = 0)) then (av3).bind fun x13 => some x13 else (a25 x11.1.Store).bind fun x14 => (aL9 x14 400).bind fun x15 => (if (!decide (x15.2.2 = 0)) then some true else if (!decide (x15.2.1 = (List.length x14 : Int))) then some true else (aM0 x11.1.Store).bind fun x18 => if (!decide (x15.2.1 = x18)) then some true else (at9 x15.1 x11.1.Store).bind fun x20 => some (!x20)).bind fun t21 => if t21 then some false else (ay8 {x11.1 with Store := x15.1} now).bind fun x23 => (if (decide (x23.2 = 0)) then (aU4 x23.1 f.Tree).bind fun x25 => if x25 then (aB9 {x11.1 with Store := x15.1}).bind fun x27 => if x27 then (av3).bind fun x29 => some x29 else some false else some false else some false).bind fun t30 => some t30
end
end Go.Proofs.YtchaaedlfibdoaaGreatDoor
