import Derived.Test.YteejnomnholelaaGreatDoorVmX
import Derived.Test.YteejnomnholelaaGreatDoorVmB
namespace Go.Proofs.YteejnomnholelaaGreatDoor
open Go.Vm
set_option autoImplicit false
set_option linter.unusedVariables false
set_option linter.unusedSimpArgs false
set_option maxRecDepth 100000
noncomputable section
abbrev Str := List UInt8
def aL7 {α β : Type} (o : Option α) (p : α → List β) (l : List β) : Option α := o.bind fun r => if (p r).length = l.length then some r else none
structure aa1 where
  Id : Int
  Parent : Int
  Vers : Int
  Name : Str
  Mode : Int
  Uid : Str
  Gid : Str
  Muid : Str
  Atime : Int
  Mtime : Int
  Data : Str
  deriving Inhabited
def zE1 (x : aa1) : PV := .agg [.int .i64 x.Id,.int .i64 x.Parent,.int .i64 x.Vers,.str x.Name,.int .i64 x.Mode,.str x.Uid,.str x.Gid,.str x.Muid,.int .i64 x.Atime,.int .i64 x.Mtime,.str x.Data]
structure aa3 where
  Next : Int
  Nodes : (List aa1)
  deriving Inhabited
def zE2 (x : aa3) : PV := .agg [.int .i64 x.Next,.sl (some 11) (List.map zE1 x.Nodes)]
structure ac5 where
  Score : Str
  Kind : Int
  Data : Str
  deriving Inhabited
def zE3 (x : ac5) : PV := .agg [.str x.Score,.int .i64 x.Kind,.str x.Data]
structure aa0 where
  Cap : Int
  Blocks : (List ac5)
  deriving Inhabited
def zE4 (x : aa0) : PV := .agg [.int .i64 x.Cap,.sl (some 3) (List.map zE3 x.Blocks)]
structure ab9 where
  dir : Int
  name : Str
  deriving Inhabited,DecidableEq
def zE5 (x : ab9) : PV := .agg [.int .i64 x.dir,.str x.name]
structure aq4 where
  Score : Str
  Length : Int
  Levels : Int
  deriving Inhabited
def zE6 (x : aq4) : PV := .agg [.str x.Score,.int .i64 x.Length,.int .i64 x.Levels]
structure aa2 where
  node : aa1
  root : aq4
  deriving Inhabited
def zE7 (x : aa2) : PV := .agg [.int .i64 x.node.Id,.int .i64 x.node.Parent,.int .i64 x.node.Vers,.str x.node.Name,.int .i64 x.node.Mode,.str x.node.Uid,.str x.node.Gid,.str x.node.Muid,.int .i64 x.node.Atime,.int .i64 x.node.Mtime,.str x.node.Data,.str x.root.Score,.int .i64 x.root.Length,.int .i64 x.root.Levels]
structure aa5 where
  s : Str
  at_ : Int
  bad : Bool
  deriving Inhabited
def zE8 (x : aa5) : PV := .agg [.str x.s,.int .i64 x.at_,.bool x.bad]
structure ag6 where
  kind : Int
  length : Int
  lo : Int
  hi : Int
  deriving Inhabited
def zE9 (x : ag6) : PV := .agg [.int .i64 x.kind,.int .i64 x.length,.int .i64 x.lo,.int .i64 x.hi]
structure ab2 where
  path : Str
  node : aa1
  deriving Inhabited
def av8 (x : ab2) : PV := .agg [.str x.path,.int .i64 x.node.Id,.int .i64 x.node.Parent,.int .i64 x.node.Vers,.str x.node.Name,.int .i64 x.node.Mode,.str x.node.Uid,.str x.node.Gid,.str x.node.Muid,.int .i64 x.node.Atime,.int .i64 x.node.Mtime,.str x.node.Data]
def ap6 (t_ : aa3) (v7 : Int) : Option (Step Int Bool) :=
  if (decide (v7 < (List.length t_.Nodes : Int))) then (ah3 t_.Nodes v7).bind fun x10 => (if (decide (3000 < (List.length x10.Data : Int))) then some true else (ah3 t_.Nodes v7).bind fun x12 => some (decide (200 < (List.length x12.Name : Int)))).bind fun t13 => if t13 then some (.done false) else some (.cont (IntKind.wrap .i64 (v7 + 1))) else some (.done (decide ((List.length t_.Nodes : Int) ≤ 12)))
def aA2 (t_ : aa3) : Option Bool :=
  ae4 (fun s => ap6 t_ s) 0
def aN2 (mode : Int) : Option Bool :=
  if ((decide (mode < 0)) || (decide (4294967296 ≤ mode))) then some false else some ((decide ((IntKind.wrap .i64 (mode - (Int.tmod mode 512))) = 0)) || ((decide ((IntKind.wrap .i64 (mode - (Int.tmod mode 512))) = 2147483648)) || ((decide ((IntKind.wrap .i64 (mode - (Int.tmod mode 512))) = 1073741824)) || ((decide ((IntKind.wrap .i64 (mode - (Int.tmod mode 512))) = 536870912)) || (decide ((IntKind.wrap .i64 (mode - (Int.tmod mode 512))) = 1610612736))))))
def aI7 (mode : Int) : Option Bool :=
  some (decide (2147483648 ≤ mode))
def au0 (n : aa1) : Option Bool :=
  (aN2 n.Mode).bind fun x1 => if ((!x1) || ((decide (n.Vers < 0)) || ((decide (2147483647 < n.Vers)) || ((decide (n.Atime < 0)) || ((decide (1099511627776 < n.Atime)) || ((decide (n.Mtime < 0)) || (decide (1099511627776 < n.Mtime)))))))) then some false else if ((decide (64 < (List.length n.Uid : Int))) || ((decide (64 < (List.length n.Gid : Int))) || ((decide (64 < (List.length n.Muid : Int))) || (decide (65536 < (List.length n.Data : Int)))))) then some false else (aI7 n.Mode).bind fun x15 => some ((!x15) || (decide (n.Data = [])))
def ar3 (name : Str) (i : Int) : Option (Step Int Bool) :=
  if (decide (i < (List.length name : Int))) then (aC4 name i).bind fun c12 => (if (decide ((c12.toNat : Int) < 33)) then some true else (aC4 name i).bind fun c14 => if (decide (126 < (c14.toNat : Int))) then some true else (aC4 name i).bind fun c16 => some (decide ((c16.toNat : Int) = 47))).bind fun t17 => if t17 then some (.done false) else some (.cont (IntKind.wrap .i64 (i + 1))) else some (.done ((decide (1 ≤ (List.length name : Int))) && ((decide ((List.length name : Int) ≤ 64)) && ((!decide (name = [46])) && (!decide (name = [46,46]))))))
def aI8 (name : Str) : Option Bool :=
  ae4 (fun s => ar3 name s) 0
def az3 (i : Int) (dir : Bool) : Option (Step Int Bool) :=
  if (!dir) then some (.done false) else some (.cont (IntKind.wrap .i64 (i + 1)))
def an6 (t_ : aa3) (i : Int) (dir : Bool) (k : Int) : Option (Step (Bool × Int) (Step Int Bool)) :=
  if (decide (k < i)) then (if dir then some true else (ah3 t_.Nodes k).bind fun x88 => (ah3 t_.Nodes i).bind fun x89 => if (decide (x88.Id = x89.Parent)) then (ah3 t_.Nodes k).bind fun x91 => (aI7 x91.Mode).bind fun x92 => some x92 else some false).bind fun t93 => (if (decide (0 < k)) then (ah3 t_.Nodes k).bind fun x95 => (ah3 t_.Nodes i).bind fun x96 => if (decide (x95.Parent = x96.Parent)) then (ah3 t_.Nodes k).bind fun x98 => (ah3 t_.Nodes i).bind fun x99 => some (decide (x98.Name = x99.Name)) else some false else some false).bind fun t100 => if t100 then some (.done (.done false)) else some (.cont (t93,(IntKind.wrap .i64 (k + 1)))) else (az3 i dir).map .done
def ak4 (t_ : aa3) (i : Int) : Option (Step Int Bool) :=
  if (decide (i < (List.length t_.Nodes : Int))) then (ah3 t_.Nodes i).bind fun x63 => (ah3 t_.Nodes (IntKind.wrap .i64 (i - 1))).bind fun x64 => (if (decide (x63.Id ≤ x64.Id)) then some true else (ah3 t_.Nodes i).bind fun x66 => (ah3 t_.Nodes i).bind fun x67 => if (decide (x67.Id ≤ x66.Parent)) then some true else (ah3 t_.Nodes i).bind fun x69 => (aI8 x69.Name).bind fun x70 => if (!x70) then some true else (ah3 t_.Nodes i).bind fun x72 => (au0 x72).bind fun x73 => some (!x73)).bind fun t74 => if t74 then some (.done false) else ae4 (fun s => an6 t_ i s.1 s.2) (false,0) else some (.done true)
def aC5 (t_ : aa3) : Option Bool :=
  (if (decide ((List.length t_.Nodes : Int) < 1)) then some true else if (decide (1024 < (List.length t_.Nodes : Int))) then some true else (ah3 t_.Nodes 0).bind fun x3 => if (!decide (x3.Id = 1)) then some true else (ah3 t_.Nodes 0).bind fun x5 => if (!decide (x5.Parent = 1)) then some true else (ah3 t_.Nodes 0).bind fun x7 => if (!decide (x7.Name = [47])) then some true else (ah3 t_.Nodes 0).bind fun x9 => if (decide (x9.Mode < 2147483648)) then some true else (ah3 t_.Nodes 0).bind fun x11 => (au0 x11).bind fun x12 => some (!x12)).bind fun t13 => if t13 then some false else (ah3 t_.Nodes (IntKind.wrap .i64 ((List.length t_.Nodes : Int) - 1))).bind fun x15 => if ((decide (t_.Next ≤ x15.Id)) || (decide (1048576 < t_.Next))) then some false else ae4 (fun s => ak4 t_ s) 1
def as5 : Option Bool := some true
def aU6 (most : Int) : Option aa0 :=
  some (aa0.mk (min (max most 1) 4096) ([] : List ac5))
def ap1 (p3 : Bool) : Option Bool :=
  if p3 then some true else some false
def aN3 (mode : Int) : Option Bool :=
  if (decide (mode < 0)) then some false else if (decide ((IntKind.wrap .i64 (mode - (Int.tmod mode 512))) = 0)) then ap1 (decide ((IntKind.wrap .i64 (mode - (Int.tmod mode 512))) = 0)) else if (decide ((IntKind.wrap .i64 (mode - (Int.tmod mode 512))) = 2147483648)) then ap1 (decide ((IntKind.wrap .i64 (mode - (Int.tmod mode 512))) = 2147483648)) else if (decide ((IntKind.wrap .i64 (mode - (Int.tmod mode 512))) = 1073741824)) then ap1 (decide ((IntKind.wrap .i64 (mode - (Int.tmod mode 512))) = 1073741824)) else if (decide ((IntKind.wrap .i64 (mode - (Int.tmod mode 512))) = 536870912)) then ap1 (decide ((IntKind.wrap .i64 (mode - (Int.tmod mode 512))) = 536870912)) else ap1 (decide ((IntKind.wrap .i64 (mode - (Int.tmod mode 512))) = 1610612736))
def aN4 (now : Int) : Option Int :=
  some (min (max now 0) 1099511627776)
def am4 (mode : Int) : Option Bool :=
  some ((decide (0 ≤ mode)) && (decide ((Int.tmod (IntKind.wrap .i64 (Int.tdiv mode 2147483648)) 2) = 1)))
def aN5 (n : aa1) : Option Bool :=
  (aN3 n.Mode).bind fun x1 => (if (!x1) then some true else if (decide (n.Vers < 0)) then some true else if (decide (2147483647 < n.Vers)) then some true else (aN4 n.Atime).bind fun x5 => if (!decide (n.Atime = x5)) then some true else (aN4 n.Mtime).bind fun x7 => some (!decide (n.Mtime = x7))).bind fun t8 => if t8 then some false else if ((decide (64 < (max (max (List.length n.Uid : Int) (List.length n.Gid : Int)) (List.length n.Muid : Int)))) || (decide (65536 < (List.length n.Data : Int)))) then some false else (am4 n.Mode).bind fun x13 => some ((!x13) || (decide (n.Data = [])))
def as6 (name : Str) (v14 : Int) : Option (Step Int Bool) :=
  if (decide (v14 < (List.length name : Int))) then (aC4 name v14).bind fun c17 => (if (decide ((c17.toNat : Int) < 33)) then some true else (aC4 name v14).bind fun c19 => if (decide (126 < (c19.toNat : Int))) then some true else (aC4 name v14).bind fun c21 => some (decide ((c21.toNat : Int) = 47))).bind fun t22 => if t22 then some (.done false) else some (.cont (IntKind.wrap .i64 (v14 + 1))) else some (.done true)
def aN6 (name : Str) : Option Bool :=
  if ((decide (name = [])) || ((decide (name = [46])) || ((decide (name = [46,46])) || (decide (64 < (List.length name : Int)))))) then some false else ae4 (fun s => as6 name s) 0
def as7 (v50 : Int) (v51 : (aE5 Int)) (x55 : aa1) (p65 : (aE5 ab9)) : Option (Step (Int × (aE5 Int) × (aE5 ab9)) Bool) :=
  (am4 x55.Mode).bind fun x66 => if x66 then some (.cont ((IntKind.wrap .i64 (v50 + 1)),(bW7 v51 x55.Id (IntKind.wrap .i64 ((aP1 v51 x55.Id) + 1))),p65)) else some (.cont ((IntKind.wrap .i64 (v50 + 1)),v51,p65))
def as8 (v50 : Int) (v51 : (aE5 Int)) (v52 : (aE5 ab9)) (x55 : aa1) : Option (Step (Int × (aE5 Int) × (aE5 ab9)) Bool) :=
  if (decide (0 < v50)) then (b00 ((bb8 v52 (ab9.mk x55.Parent x55.Name)).2.2) ((bb8 v52 (ab9.mk x55.Parent x55.Name)).2.1 : Int) (IntKind.wrap .i64 ((aP1 v52 (ab9.mk x55.Parent x55.Name)) + 1))).bind fun m69 => as7 v50 v51 x55 (m69,((bb8 v52 (ab9.mk x55.Parent x55.Name)).2.2).2) else as7 v50 v51 x55 v52
def as9 (t_ : aa3) (v50 : Int) (v51 : (aE5 Int)) (v52 : (aE5 ab9)) : Option (Step (Int × (aE5 Int) × (aE5 ab9)) Bool) :=
  if (decide (v50 < (List.length t_.Nodes : Int))) then (ah3 t_.Nodes v50).bind fun x55 => (aN5 x55).bind fun x56 => (if (!x56) then some true else if (decide (t_.Next ≤ x55.Id)) then some true else if (decide (0 < v50)) then (ah3 t_.Nodes (IntKind.wrap .i64 (v50 - 1))).bind fun x60 => some (decide (x55.Id ≤ x60.Id)) else some false).bind fun t61 => if t61 then some (.done false) else if (decide (v50 = 0)) then (if (!decide (x55.Id = 1)) then some true else if (!decide (x55.Parent = 1)) then some true else if (!decide (x55.Name = [47])) then some true else (am4 x55.Mode).bind fun x74 => some (!x74)).bind fun t75 => if t75 then some (.done false) else as8 v50 v51 v52 x55 else (aN6 x55.Name).bind fun x77 => if ((!x77) || ((decide ((aP1 v51 x55.Parent) = 0)) || (decide (0 < (aP1 v52 (ab9.mk x55.Parent x55.Name)))))) then some (.done false) else as8 v50 v51 v52 x55 else some (.done true)
def aB2 (t_ : aa3) : Option Bool :=
  if ((decide ((List.length t_.Nodes : Int) < 1)) || ((decide (1024 < (List.length t_.Nodes : Int))) || (decide (1048576 < t_.Next)))) then some false else ae4 (fun s => as9 t_ s.1 s.2.1 s.2.2) (0,(([],0) : aE5 Int),(([],0) : aE5 ab9))
def ak7 : Option (List ac5) :=
  some ([] : List ac5)
def ah4 : Option (List ac5) :=
  (aZ9 40 ([] : List ac5) []).bind fun x1 => some x1
def ab5 (s_ : (List ac5)) : Option (List ac5) :=
  (aZ9 40 ([] : List ac5) s_).bind fun x1 => some x1
def ax2 (s_ : aa0) : Option aa0 :=
  (ab5 s_.Blocks).bind fun x1 => some (aa0.mk s_.Cap x1)
def aL8 (n : aa1) (a1 : Int) : Option Bool :=
  some (decide (n.Id = a1))
def ak1 (t_ : aa3) (accepts : Int) (v5 : Int) : Option (Step Int Int) :=
  if (decide (v5 < (List.length t_.Nodes : Int))) then (ah3 t_.Nodes v5).bind fun x8 => (aL8 x8 accepts).bind fun x9 => if x9 then some (.done v5) else some (.cont (IntKind.wrap .i64 (v5 + 1))) else some (.done (-1))
def aF5 (t_ : aa3) (accepts : Int) : Option Int :=
  ae4 (fun s => ak1 t_ accepts s) 0
def aG7 (t_ : aa3) (id : Int) : Option Int :=
  (aF5 t_ id).bind fun x1 => some x1
def aC6 (t_ : aa3) (id : Int) : Option (aa1 × Bool) :=
  (aG7 t_ id).bind fun x1 => if (decide (x1 < 0)) then some ((aa1.mk 0 0 0 [] 0 [] [] [] 0 0 []),false) else (ah3 t_.Nodes x1).bind fun x3 => some (x3,true)
def af3 (n : aa1) : Option Bool :=
  some (decide (2147483648 ≤ n.Mode))
def aI9 (t_ : aa3) (dir : Int) : Option Int :=
  (aC6 t_ dir).bind fun x1 => if (!x1.2) then some 8 else (am4 x1.1.Mode).bind fun x3 => if (!x3) then some 9 else some 0
def an7 (t_ : aa3) (dir : Int) (v9 : Int) (out : (List Int)) : Option (Step (Int × (List Int)) (List Int)) :=
  if (decide (v9 < (List.length t_.Nodes : Int))) then (ah3 t_.Nodes v9).bind fun x13 => if ((decide (x13.Parent = dir)) && (!decide (x13.Id = 1))) then (aZ9 8 out [x13.Id]).bind fun x17 => some (.cont ((IntKind.wrap .i64 (v9 + 1)),x17)) else some (.cont ((IntKind.wrap .i64 (v9 + 1)),out)) else some (.done out)
def aA3 (t_ : aa3) (dir : Int) : Option (List Int) :=
  (aI9 t_ dir).bind fun x1 => if (!decide (x1 = 0)) then some ([] : List Int) else ae4 (fun s => an7 t_ dir s.1 s.2) (0,([] : List Int))
def au7 (n : Int) (x9 : (List Int)) (v13 : Int) (out : (List Int)) : Option (Step (Int × (List Int)) (Str × Int)) :=
  if (decide (v13 < (List.length x9 : Int))) then (bi4 .i64 n (IntKind.wrap .i64 (8 * v13))).bind fun x17 => (ah3 out v13).bind fun x18 => some (.cont ((IntKind.wrap .i64 (v13 + 1)),(List.set out (Int.toNat v13) (IntKind.wrap .u8 x17)))) else some (.done ((bF6 out),0))
def au8 (n : Int) (width : Int) : Option (Str × Int) :=
  if ((decide (width < 1)) || (decide (8 < width))) then some ([],1) else (if (decide (n < 0)) then some true else if (decide (width < 8)) then (bi4 .i64 n (IntKind.wrap .i64 (8 * width))).bind fun x6 => some (decide (0 < x6)) else some false).bind fun t7 => if t7 then some ([],5) else (mkC 1 (0 : Int) width width).bind fun x9 => ae4 (fun s => au7 n x9 s.1 s.2) (0,x9)
def ad8 (n : Int) (width : Int) (v : Str) : Option Str :=
  (au8 n width).bind fun x1 => (bi3 v x1.1).bind fun x2 => some x2
def aA4 (s_ : Str) : Option (Str × Int) :=
  if (decide (65535 < (List.length s_ : Int))) then some ([],4) else (au8 (List.length s_ : Int) 2).bind fun x2 => (bi3 x2.1 s_).bind fun x3 => some (x3,x2.2)
def au9 (x_ : aa2) (v13 : Str) : Option Str :=
  (ad8 x_.root.Length 4 v13).bind fun x19 => (ad8 x_.root.Levels 1 x19).bind fun x20 => (bi3 x20 x_.root.Score).bind fun x21 => some x21
def al5 (x_ : aa2) (v12 : Int) (v13 : Str) : Option (Step (Int × Str) Str) :=
  if (decide (v12 < 4)) then (ah3 [x_.node.Name,x_.node.Uid,x_.node.Gid,x_.node.Muid] v12).bind fun x16 => (aA4 x16).bind fun x17 => (bi3 v13 x17.1).bind fun x18 => some (.cont ((IntKind.wrap .i64 (v12 + 1)),x18)) else (au9 x_ v13).map .done
def aq5 (x_ : aa2) (v3 : Str) : Option Str :=
  (ad8 x_.node.Atime 8 v3).bind fun x8 => (ad8 x_.node.Mtime 8 x8).bind fun x9 => ae4 (fun s => al5 x_ s.1 s.2) (0,x9)
def an8 (x_ : aa2) (v2 : Int) (v3 : Str) : Option (Step (Int × Str) Str) :=
  if (decide (v2 < 4)) then (ah3 [x_.node.Id,x_.node.Parent,x_.node.Vers,x_.node.Mode] v2).bind fun x6 => (ad8 x6 4 v3).bind fun x7 => some (.cont ((IntKind.wrap .i64 (v2 + 1)),x7)) else (aq5 x_ v3).map .done
def at0 (x_ : aa2) : Option Str :=
  ae4 (fun s => an8 x_ s.1 s.2) (0,[])
def ak5 (level : Int) (n : Int) (v3 : Int) : Option (Step (Int × Int) Int) :=
  if (decide (v3 < level)) then some (.cont ((IntKind.wrap .i64 (Int.tdiv (IntKind.wrap .i64 ((IntKind.wrap .i64 (n + 32)) - 1)) 32)),(IntKind.wrap .i64 (v3 + 1)))) else some (.done n)
def aj3 (length : Int) (level : Int) : Option Int :=
  ae4 (fun s => ak5 level s.1 s.2) ((max 1 (IntKind.wrap .i64 (Int.tdiv (IntKind.wrap .i64 ((IntKind.wrap .i64 (length + 1024)) - 1)) 1024))),0)
def an9 (length : Int) (level : Int) : Option (Step Int Int) :=
  (aj3 length level).bind fun x5 => if (decide (1 < x5)) then some (.cont (IntKind.wrap .i64 (level + 1))) else some (.done level)
def at1 (length : Int) : Option Int :=
  ae4 (fun s => an9 length s) 0
def av0 (s__1 : Str) (out : (List Str)) : Option (List Str) :=
  (aZ9 16 out [s__1]).bind fun x12 => some x12
def as1 (size : Int) (s__1 : Str) (out : (List Str)) : Option (Step (Str × (List Str)) (List Str)) :=
  if (decide (size < (List.length s__1 : Int))) then (cut s__1 0 size).bind fun x9 => (aZ9 16 out [x9]).bind fun x10 => (cut s__1 size (List.length s__1 : Int)).bind fun x11 => some (.cont (x11,x10)) else (av0 s__1 out).map .done
def ap8 (s_ : Str) (size : Int) : Option (List Str) :=
  ae4 (fun s => as1 size s.1 s.2) (s_,([] : List Str))
def aQ8 (s_ : aa0) : Option aa0 :=
  (ab5 s_.Blocks).bind fun x1 => some (aa0.mk s_.Cap x1)
def aQ9 (kind : Int) : Option Bool :=
  some ((decide (1 ≤ kind)) && (decide (kind ≤ 4)))
def ao5 (s_ : Str) (i : Int) (v12 : Str) : Option (Step (Int × Str) Str) :=
  if (decide (0 ≤ i)) then (bi4 .u64 (IntKind.wrap .u64 (8 * (IntKind.wrap .u64 (List.length s_ : Int)))) i).bind fun x15 => (bAdd v12 [(u8w x15)]).bind fun x16 => some (.cont ((IntKind.wrap .i64 (i - 8)),x16)) else some (.done v12)
def aC7 (s_ : Str) (v5 : Str) : Option (Step Str Str) :=
  if (!decide ((Int.tmod (List.length v5 : Int) 64) = 56)) then (bAdd v5 [(0 : UInt8)]).bind fun x8 => some (.cont x8) else (ae4 (fun s => ao5 s_ s.1 s.2) (56,v5)).map .done
def a11 (s_ : Str) : Option Str :=
  (bAdd ([] : Str) s_).bind fun x1 => (bAdd x1 [(128 : UInt8)]).bind fun x2 => ae4 (fun s => aC7 s_ s) x2
def aU7 (s_ : Str) : Option Int :=
  (aC4 s_ 0).bind fun c1 => (bZ3 .u32 (IntKind.wrap .u32 (c1.toNat : Int)) 24).bind fun x2 => (aC4 s_ 1).bind fun c3 => (bZ3 .u32 (IntKind.wrap .u32 (c3.toNat : Int)) 16).bind fun x4 => (aC4 s_ 2).bind fun c5 => (bZ3 .u32 (IntKind.wrap .u32 (c5.toNat : Int)) 8).bind fun x6 => (aC4 s_ 3).bind fun c7 => some (IntKind.wrap .u32 ((BitVec.ofInt (IntKind.bits .u32) (IntKind.wrap .u32 ((BitVec.ofInt (IntKind.bits .u32) (IntKind.wrap .u32 ((BitVec.ofInt (IntKind.bits .u32) x2 ||| (BitVec.ofInt (IntKind.bits .u32) x4)).toNat : Nat)) ||| (BitVec.ofInt (IntKind.bits .u32) x6)).toNat : Nat)) ||| (BitVec.ofInt (IntKind.bits .u32) (IntKind.wrap .u32 (c7.toNat : Int)))).toNat : Nat))
def aq2 (x_ : Int) (k : Int) : Option Int :=
  (bZ3 .u32 x_ (IntKind.wrap .u64 ((BitVec.ofInt (IntKind.bits .u64) (IntKind.wrap .u64 k) &&& (BitVec.ofInt (IntKind.bits .u64) 31)).toNat : Nat))).bind fun x1 => (bi4 .u32 x_ (IntKind.wrap .u64 (32 - (IntKind.wrap .u64 ((BitVec.ofInt (IntKind.bits .u64) (IntKind.wrap .u64 k) &&& (BitVec.ofInt (IntKind.bits .u64) 31)).toNat : Nat))))).bind fun x2 => some (IntKind.wrap .u32 ((BitVec.ofInt (IntKind.bits .u32) x1 ||| (BitVec.ofInt (IntKind.bits .u32) x2)).toNat : Nat))
def ae2 (x_ : Int) (n : Int) : Option Int :=
  (aq2 x_ (IntKind.wrap .i64 (0 - n))).bind fun x1 => some x1
def ax3 (v5 : (List Int)) : Option (List Int) :=
  (aQ6 64 v5).bind fun x29 => some v5
def al1 (block : Str) (v4 : Int) (v5 : (List Int)) : Option (Step (Int × (List Int)) (List Int)) :=
  if (decide (v4 < 64)) then if (decide (v4 < 16)) then (cut block (IntKind.wrap .i64 (4 * v4)) (List.length block : Int)).bind fun x9 => (aU7 x9).bind fun x10 => (bv0 64 v4).bind fun x11 => (bi8 v5 v4 x10).bind fun x12 => some (.cont ((IntKind.wrap .i64 (v4 + 1)),x12)) else (bv0 64 (IntKind.wrap .i64 (v4 - 15))).bind fun x13 => (ah3 v5 (IntKind.wrap .i64 (v4 - 15))).bind fun x14 => (bv0 64 (IntKind.wrap .i64 (v4 - 2))).bind fun x15 => (ah3 v5 (IntKind.wrap .i64 (v4 - 2))).bind fun x16 => (ae2 x14 7).bind fun x17 => (ae2 x14 18).bind fun x18 => (bi4 .u32 x14 3).bind fun x19 => (ae2 x16 17).bind fun x20 => (ae2 x16 19).bind fun x21 => (bi4 .u32 x16 10).bind fun x22 => (bv0 64 (IntKind.wrap .i64 (v4 - 16))).bind fun x23 => (ah3 v5 (IntKind.wrap .i64 (v4 - 16))).bind fun x24 => (bv0 64 (IntKind.wrap .i64 (v4 - 7))).bind fun x25 => (ah3 v5 (IntKind.wrap .i64 (v4 - 7))).bind fun x26 => (bv0 64 v4).bind fun x27 => (bi8 v5 v4 (IntKind.wrap .u32 ((IntKind.wrap .u32 ((IntKind.wrap .u32 (x24 + (IntKind.wrap .u32 ((BitVec.ofInt (IntKind.bits .u32) (IntKind.wrap .u32 ((BitVec.ofInt (IntKind.bits .u32) x17 ^^^ (BitVec.ofInt (IntKind.bits .u32) x18)).toNat : Nat)) ^^^ (BitVec.ofInt (IntKind.bits .u32) x19)).toNat : Nat)))) + x26)) + (IntKind.wrap .u32 ((BitVec.ofInt (IntKind.bits .u32) (IntKind.wrap .u32 ((BitVec.ofInt (IntKind.bits .u32) x20 ^^^ (BitVec.ofInt (IntKind.bits .u32) x21)).toNat : Nat)) ^^^ (BitVec.ofInt (IntKind.bits .u32) x22)).toNat : Nat))))).bind fun x28 => some (.cont ((IntKind.wrap .i64 (v4 + 1)),x28)) else (ax3 v5).map .done
def aA5 (block : Str) : Option (List Int) :=
  ae4 (fun s => al1 block s.1 s.2) (0,(List.replicate 64 (0 : Int)))
def aZ5 (v47 : (List Int)) : Option (List Int) :=
  (aQ6 8 v47).bind fun x56 => some v47
def ad0 (v22 : (List Int)) (v46 : Int) (v47 : (List Int)) : Option (Step (Int × (List Int)) (List Int)) :=
  if (decide (v46 < 8)) then (bv0 8 v46).bind fun x50 => (ah3 v47 v46).bind fun x51 => (bv0 8 v46).bind fun x52 => (ah3 v22 v46).bind fun x53 => (bv0 8 v46).bind fun x54 => (bi8 v47 v46 (IntKind.wrap .u32 (x51 + x53))).bind fun x55 => some (.cont ((IntKind.wrap .i64 (v46 + 1)),x55)) else (aZ5 v47).map .done
def ay7 (h_ : (List Int)) (x2 : (List Int)) (v21 : Int) (v22 : (List Int)) : Option (Step (Int × (List Int)) (List Int)) :=
  if (decide (v21 < 64)) then (ah3 v22 0).bind fun x25 => (ah3 v22 1).bind fun x26 => (ah3 v22 2).bind fun x27 => (ah3 v22 4).bind fun x28 => (ah3 v22 5).bind fun x29 => (ah3 v22 6).bind fun x30 => (ah3 v22 7).bind fun x31 => (ae2 x28 6).bind fun x32 => (ae2 x28 11).bind fun x33 => (ae2 x28 25).bind fun x34 => (bv0 64 v21).bind fun x35 => (ah3 an0 v21).bind fun x36 => (bv0 64 v21).bind fun x37 => (ah3 x2 v21).bind fun x38 => (ae2 x25 2).bind fun x39 => (ae2 x25 13).bind fun x40 => (ae2 x25 22).bind fun x41 => (ah3 v22 3).bind fun x42 => some (.cont ((IntKind.wrap .i64 (v21 + 1)),([(IntKind.wrap .u32 ((IntKind.wrap .u32 ((IntKind.wrap .u32 ((IntKind.wrap .u32 ((IntKind.wrap .u32 (x31 + (IntKind.wrap .u32 ((BitVec.ofInt (IntKind.bits .u32) (IntKind.wrap .u32 ((BitVec.ofInt (IntKind.bits .u32) x32 ^^^ (BitVec.ofInt (IntKind.bits .u32) x33)).toNat : Nat)) ^^^ (BitVec.ofInt (IntKind.bits .u32) x34)).toNat : Nat)))) + (IntKind.wrap .u32 ((BitVec.ofInt (IntKind.bits .u32) (IntKind.wrap .u32 ((BitVec.ofInt (IntKind.bits .u32) x28 &&& (BitVec.ofInt (IntKind.bits .u32) x29)).toNat : Nat)) ^^^ (BitVec.ofInt (IntKind.bits .u32) (IntKind.wrap .u32 ((BitVec.ofInt (IntKind.bits .u32) (notI .u32 x28) &&& (BitVec.ofInt (IntKind.bits .u32) x30)).toNat : Nat)))).toNat : Nat)))) + x36)) + x38)) + (IntKind.wrap .u32 ((IntKind.wrap .u32 ((BitVec.ofInt (IntKind.bits .u32) (IntKind.wrap .u32 ((BitVec.ofInt (IntKind.bits .u32) x39 ^^^ (BitVec.ofInt (IntKind.bits .u32) x40)).toNat : Nat)) ^^^ (BitVec.ofInt (IntKind.bits .u32) x41)).toNat : Nat)) + (IntKind.wrap .u32 ((BitVec.ofInt (IntKind.bits .u32) (IntKind.wrap .u32 ((BitVec.ofInt (IntKind.bits .u32) (IntKind.wrap .u32 ((BitVec.ofInt (IntKind.bits .u32) x25 &&& (BitVec.ofInt (IntKind.bits .u32) x26)).toNat : Nat)) ^^^ (BitVec.ofInt (IntKind.bits .u32) (IntKind.wrap .u32 ((BitVec.ofInt (IntKind.bits .u32) x25 &&& (BitVec.ofInt (IntKind.bits .u32) x27)).toNat : Nat)))).toNat : Nat)) ^^^ (BitVec.ofInt (IntKind.bits .u32) (IntKind.wrap .u32 ((BitVec.ofInt (IntKind.bits .u32) x26 &&& (BitVec.ofInt (IntKind.bits .u32) x27)).toNat : Nat)))).toNat : Nat)))))),x25,x26,x27,(IntKind.wrap .u32 (x42 + (IntKind.wrap .u32 ((IntKind.wrap .u32 ((IntKind.wrap .u32 ((IntKind.wrap .u32 (x31 + (IntKind.wrap .u32 ((BitVec.ofInt (IntKind.bits .u32) (IntKind.wrap .u32 ((BitVec.ofInt (IntKind.bits .u32) x32 ^^^ (BitVec.ofInt (IntKind.bits .u32) x33)).toNat : Nat)) ^^^ (BitVec.ofInt (IntKind.bits .u32) x34)).toNat : Nat)))) + (IntKind.wrap .u32 ((BitVec.ofInt (IntKind.bits .u32) (IntKind.wrap .u32 ((BitVec.ofInt (IntKind.bits .u32) x28 &&& (BitVec.ofInt (IntKind.bits .u32) x29)).toNat : Nat)) ^^^ (BitVec.ofInt (IntKind.bits .u32) (IntKind.wrap .u32 ((BitVec.ofInt (IntKind.bits .u32) (notI .u32 x28) &&& (BitVec.ofInt (IntKind.bits .u32) x30)).toNat : Nat)))).toNat : Nat)))) + x36)) + x38)))),x28,x29,x30] : List Int))) else (ae4 (fun s => ad0 v22 s.1 s.2) (0,h_)).map .done
def aU8 (h_ : (List Int)) (block : Str) : Option (List Int) :=
  (aQ6 8 h_).bind fun x1 => (aA5 block).bind fun x2 => (aQ6 64 x2).bind fun x3 => (aQ6 8 h_).bind fun x4 => ae4 (fun s => ay7 h_ x2 s.1 s.2) (0,h_)
def au1 (v8 : (List Int)) (v21 : Int) (out : (List Int)) : Option (Step (Int × (List Int)) Str) :=
  if (decide (v21 < 8)) then (bv1 8 v8 v21).bind fun x25 => (bi4 .u32 x25 24).bind fun x26 => (bi4 .u32 x25 16).bind fun x27 => (bi4 .u32 x25 8).bind fun x28 => (aZ9 1 out [(IntKind.wrap .u8 x26),(IntKind.wrap .u8 x27),(IntKind.wrap .u8 x28),(IntKind.wrap .u8 x25)]).bind fun x29 => some (.cont ((IntKind.wrap .i64 (v21 + 1)),x29)) else some (.done (bF6 out))
def aE7 (v8 : (List Int)) : Option Str :=
  (mkC 1 (0 : Int) 0 32).bind fun x15 => ae4 (fun s => au1 v8 s.1 s.2) (0,x15)
def aC8 (p : Str) (v8 : (List Int)) : Option (Step (Str × (List Int)) Str) :=
  if (!decide (p = [])) then (cut p 0 64).bind fun x11 => (aU8 v8 x11).bind fun x12 => (aQ6 8 x12).bind fun x13 => (cut p 64 (List.length p : Int)).bind fun x14 => some (.cont (x14,x12)) else (aE7 v8).map .done
def aU9 (s_ : Str) : Option Str :=
  (a11 s_).bind fun x1 => ae4 (fun s => aC8 s.1 s.2) (x1,([1779033703,3144134277,1013904242,2773480762,1359893119,2600822924,528734635,1541459225] : List Int))
def aG8 (kind : Int) (s_ : Str) : Option Str :=
  (bi3 ([UInt8.ofNat (Int.toNat (IntKind.wrap .u8 kind))] : Str) s_).bind fun x1 => (aU9 x1).bind fun x2 => some x2
def aG9 (kind : Int) (data : Str) : Option ac5 :=
  (aG8 kind data).bind fun x1 => some (ac5.mk x1 kind data)
def aV0 (b : ac5) (a1 : Str) : Option Bool :=
  some (decide (b.Score = a1))
def ab3 (s_ : (List ac5)) (f : Str) (v5 : Int) : Option (Step Int Int) :=
  if (decide (v5 < (List.length s_ : Int))) then (ah3 s_ v5).bind fun x8 => (aV0 x8 f).bind fun x9 => if x9 then some (.done v5) else some (.cont (IntKind.wrap .i64 (v5 + 1))) else some (.done (-1))
def ae9 (s_ : (List ac5)) (f : Str) : Option Int :=
  ae4 (fun s => ab3 s_ f s) 0
def aC9 (s_ : aa0) (score : Str) : Option Int :=
  (ae9 s_.Blocks score).bind fun x1 => some x1
def aH0 (s_ : aa0) (kind : Int) (data : Str) : Option (aa0 × Str × Int) :=
  (aQ8 s_).bind fun x1 => (aQ9 kind).bind fun x2 => if (!x2) then some (x1,[],1) else if (decide (1024 < (List.length data : Int))) then some (x1,[],4) else (aG9 kind data).bind fun x5 => (aC9 s_ x5.Score).bind fun x6 => if (decide (0 ≤ x6)) then (ah3 s_.Blocks x6).bind fun x8 => if (!(decide (x8.Score = x5.Score) && (decide (x8.Kind = x5.Kind) && (decide (x8.Data = x5.Data) && true)))) then some (x1,[],34) else some (x1,x5.Score,0) else if (decide (s_.Cap ≤ (List.length s_.Blocks : Int))) then some (x1,[],22) else (aZ9 40 x1.Blocks [x5]).bind fun x11 => some ((aa0.mk x1.Cap x11),x5.Score,0)
def ai4 (data : Str) (x1 : Int) (ah5 : (List Str)) (scores : Str) (v33 : aa0) (v34 : Str) : Option (Step (Int × aa0 × Str × (List Str)) (aa0 × aq4 × Int)) :=
  if (decide ((List.length ah5 : Int) = 1)) then some (.done (v33,(aq4.mk v34 (List.length data : Int) x1),0)) else (ap8 scores 1024).bind fun x42 => some (.cont (2,v33,v34,x42))
def ai5 (data : Str) (x1 : Int) (kind_1 : Int) (ah5 : (List Str)) (scores : Str) (v32 : Int) (v33 : aa0) (v34 : Str) : Option (Step (Str × Int × aa0 × Str) (Step (Int × aa0 × Str × (List Str)) (aa0 × aq4 × Int))) :=
  if (decide (v32 < (List.length ah5 : Int))) then (ah3 ah5 v32).bind fun x37 => (aH0 v33 kind_1 x37).bind fun x38 => if (!decide (x38.2.2 = 0)) then some (.done (.done (v33,(aq4.mk [] 0 0),x38.2.2))) else (bi3 scores x38.2.1).bind fun x40 => some (.cont (x40,(IntKind.wrap .i64 (v32 + 1)),x38.1,x38.2.1)) else (ai4 data x1 ah5 scores v33 v34).map .done
def ar4 (data : Str) (x1 : Int) (kind_1 : Int) (v22 : aa0) (v23 : Str) (ah5 : (List Str)) : Option (Step (Int × aa0 × Str × (List Str)) (aa0 × aq4 × Int)) :=
  ae4 (fun s => ai5 data x1 kind_1 ah5 s.1 s.2.1 s.2.2.1 s.2.2.2) ([],0,v22,v23)
def aD0 (s_ : aa0) (kind : Int) (data : Str) : Option (aa0 × aq4 × Int) :=
  (at1 (List.length data : Int)).bind fun x1 => (ap8 data 1024).bind fun x2 => ae4 (fun s => ar4 data x1 s.1 s.2.1 s.2.2.1 s.2.2.2) (kind,s_,[],x2)
def al6 (x1 : (aa1 × Bool)) (p3 : Int) (p4 : Str) (p5 : aa0) : Option (aa0 × aa2 × Int) :=
  (aD0 p5 p3 p4).bind fun x6 => some (x6.1,(aa2.mk {x1.1 with Data := []} x6.2.1),x6.2.2)
def af5 (rec_ : aa0 → aa3 → Int → Option (aa0 × aa2 × Int)) (t_ : aa3) (x1 : (aa1 × Bool)) (x9 : (List Int)) (data_1 : Str) (v17 : Int) (v18 : aa0) : Option (Step (Str × Int × aa0) (aa0 × aa2 × Int)) :=
  if (decide (v17 < (List.length x9 : Int))) then (ah3 x9 v17).bind fun x21 => (rec_ v18 t_ x21).bind fun x22 => if (!decide (x22.2.2 = 0)) then some (.done (v18,(aa2.mk (aa1.mk 0 0 0 [] 0 [] [] [] 0 0 []) (aq4.mk [] 0 0)),x22.2.2)) else (at0 x22.2.1).bind fun x24 => (bi3 data_1 x24).bind fun x25 => some (.cont (x25,(IntKind.wrap .i64 (v17 + 1)),x22.1)) else (al6 x1 3 data_1 v18).map .done
def ao0 (rec_ : aa0 → aa3 → Int → Option (aa0 × aa2 × Int)) (s_ : aa0) (t_ : aa3) (id : Int) : Option (aa0 × aa2 × Int) :=
  (aC6 t_ id).bind fun x1 => (af3 {x1.1 with Data := []}).bind fun x7 => if x7 then (aA3 t_ id).bind fun x9 => ae4 (fun s => af5 rec_ t_ x1 x9 s.1 s.2.1 s.2.2) ([],0,s_) else al6 x1 1 x1.1.Data s_
def ah6 : Nat → aa0 → aa3 → Int → Option (aa0 × aa2 × Int)
  | 0,_,_,_ => none
  | n_ + 1,s_,t_,id => ao0 (ah6 n_) s_ t_ id
def ar5 (s_ : aa0) (t_ : aa3) : Option (aa0 × Str × Int) :=
  (aB2 t_).bind fun x1 => if (!x1) then (ax2 s_).bind fun x3 => some (x3,[],1) else (ah6 16 s_ t_ 1).bind fun x4 => if (!decide (x4.2.2 = 0)) then (ax2 s_).bind fun x6 => some (x6,[],x4.2.2) else (au8 t_.Next 4).bind fun x7 => (au8 (List.length t_.Nodes : Int) 4).bind fun x8 => (bi3 x7.1 x8.1).bind fun x9 => (at0 x4.2.1).bind fun x10 => (bi3 x9 x10).bind fun x11 => (aH0 x4.1 4 x11).bind fun x12 => if (!decide (x12.2.2 = 0)) then (ax2 s_).bind fun x14 => some (x14,[],x12.2.2) else some (x12.1,x12.2.1,0)
def ap2 (s_ : aa0) : Option (aa0 × (List Str)) :=
  some (s_,([] : List Str))
def aV1 (s_ : aa0) (score : Str) (kind : Int) : Option (Str × Int) :=
  (aC9 s_ score).bind fun x1 => if (decide (x1 < 0)) then some ([],35) else (ah3 s_.Blocks x1).bind fun x3 => if (!decide (x3.Kind = kind)) then some ([],1) else (ah3 s_.Blocks x1).bind fun x5 => (ah3 s_.Blocks x1).bind fun x6 => (aG9 kind x6.Data).bind fun x7 => if (!(decide (x5.Score = x7.Score) && (decide (x5.Kind = x7.Kind) && (decide (x5.Data = x7.Data) && true)))) then some ([],34) else (ah3 s_.Blocks x1).bind fun x9 => some (x9.Data,0)
def ai2 (score : Str) (store : aa0) (l : (List Str)) (x1 : (Str × Int)) (p3 : Int) : Option (Str × Int × aa0 × (List Str)) :=
  if (!decide (p3 = 0)) then some ([],p3,store,l) else (aZ9 16 l [score]).bind fun x5 => some (x1.1,0,store,x5)
def af0 (score : Str) (kind : Int) (store : aa0) (l : (List Str)) : Option (Str × Int × aa0 × (List Str)) :=
  (aV1 store score kind).bind fun x1 => if (decide (x1.2 = 1)) then ai2 score store l x1 2 else ai2 score store l x1 x1.2
def aJ0 (at_ : Int) (width : Int) (n : Int) : Option (Int × Int × Int) :=
  if (decide (9223372036854775807 < n)) then some (0,0,5) else some ((IntKind.wrap .i64 n),(IntKind.wrap .i64 (at_ + width)),0)
def av1 (s_ : Str) (at_ : Int) (width : Int) (n : Int) (i : Int) : Option (Step (Int × Int) (Int × Int × Int)) :=
  if (decide (0 ≤ i)) then (bZ3 .u64 n 8).bind fun x14 => (aC4 s_ (IntKind.wrap .i64 (at_ + i))).bind fun c15 => some (.cont ((IntKind.wrap .u64 ((BitVec.ofInt (IntKind.bits .u64) x14 ||| (BitVec.ofInt (IntKind.bits .u64) (IntKind.wrap .u64 (c15.toNat : Int)))).toNat : Nat)),(IntKind.wrap .i64 (i - 1)))) else (aJ0 at_ width n).map .done
def aL9 (s_ : Str) (at_ : Int) (width : Int) : Option (Int × Int × Int) :=
  if ((decide (width < 1)) || ((decide (8 < width)) || ((decide (at_ < 0)) || (decide ((List.length s_ : Int) < at_))))) then some (0,0,1) else if (decide ((IntKind.wrap .i64 ((List.length s_ : Int) - at_)) < width)) then some (0,0,3) else ae4 (fun s => av1 s_ at_ width s.1 s.2) (0,(IntKind.wrap .i64 (width - 1)))
def aa6 (width : Int) (v : aa5) : Option (Int × aa5) :=
  (aL9 v.s v.at_ width).bind fun x1 => if (v.bad || (!decide (x1.2.2 = 0))) then some (0,{v with bad := true}) else some (x1.1,{v with at_ := x1.2.1})
def aA6 (s_ : Str) (at_ : Int) : Option (Str × Int × Int) :=
  (aL9 s_ at_ 2).bind fun x1 => if (!decide (x1.2.2 = 0)) then some ([],0,x1.2.2) else if (decide ((IntKind.wrap .i64 ((List.length s_ : Int) - x1.2.1)) < x1.1)) then some ([],0,3) else (cut s_ x1.2.1 (IntKind.wrap .i64 (x1.2.1 + x1.1))).bind fun x4 => some (x4,(IntKind.wrap .i64 (x1.2.1 + x1.1)),0)
def ae1 (v : aa5) : Option (Str × aa5) :=
  (aA6 v.s v.at_).bind fun x1 => if (v.bad || (!decide (x1.2.2 = 0))) then some ([],{v with bad := true}) else some (x1.1,{v with at_ := x1.2.1})
def ah7 (v : aa5) : Option (Str × aa5) :=
  if (v.bad || (decide ((IntKind.wrap .i64 ((List.length v.s : Int) - v.at_)) < 32))) then some ([],{v with bad := true}) else (cut v.s (IntKind.wrap .i64 ((IntKind.wrap .i64 (v.at_ + 32)) - 32)) (IntKind.wrap .i64 (v.at_ + 32))).bind fun x4 => some (x4,{v with at_ := IntKind.wrap .i64 (v.at_ + 32)})
def ag0 (v : aa5) : Option (aa2 × aa5) :=
  (aa6 4 v).bind fun x1 => (aa6 4 x1.2).bind fun x2 => (aa6 4 x2.2).bind fun x3 => (aa6 4 x3.2).bind fun x4 => (aa6 8 x4.2).bind fun x5 => (aa6 8 x5.2).bind fun x6 => (ae1 x6.2).bind fun x7 => (ae1 x7.2).bind fun x8 => (ae1 x8.2).bind fun x9 => (ae1 x9.2).bind fun x10 => (aa6 4 x10.2).bind fun x11 => (aa6 1 x11.2).bind fun x12 => (ah7 x12.2).bind fun x13 => some ((aa2.mk (aa1.mk x1.1 x2.1 x3.1 x7.1 x4.1 x8.1 x9.1 x10.1 x5.1 x6.1 []) (aq4.mk x13.1 x11.1 x12.1)),x13.2)
def aA7 (r_ : aq4) : Option Bool :=
  (if (decide ((List.length r_.Score : Int) = 32)) then if (decide (0 ≤ r_.Length)) then if (decide (r_.Length ≤ 1048576)) then (at1 r_.Length).bind fun x4 => some (decide (r_.Levels = x4)) else some false else some false else some false).bind fun t5 => some t5
def ag9 (p : ag6) (level : Int) (i : Int) : Option Int :=
  if (decide (level = 0)) then some (min 1024 (IntKind.wrap .i64 (p.length - (IntKind.wrap .i64 (i * 1024))))) else (aj3 p.length (IntKind.wrap .i64 (level - 1))).bind fun x2 => some (IntKind.wrap .i64 (32 * (min 32 (IntKind.wrap .i64 (x2 - (IntKind.wrap .i64 (i * 32)))))))
def ap7 (level : Int) (n : Int) (v3 : Int) : Option (Step (Int × Int) Int) :=
  if (decide (v3 < level)) then some (.cont ((IntKind.wrap .i64 (n * 32)),(IntKind.wrap .i64 (v3 + 1)))) else some (.done n)
def al7 (level : Int) : Option Int :=
  ae4 (fun s => ap7 level s.1 s.2) (1024,0)
def ag7 (rec_ : ag6 → Str → Int → Int → aa0 → (List Str) → Option (Str × Int × aa0 × (List Str))) (p : ag6) (level : Int) (i : Int) (x3 : (Str × Int × aa0 × (List Str))) (out : Str) (v21 : Int) (v22 : Int) (v23 : (List ac5)) (v24 : (List Str)) : Option (Step (Str × Int × Int × (List ac5) × (List Str)) (Str × Int × aa0 × (List Str))) :=
  if (decide (v21 < (IntKind.wrap .i64 (Int.tdiv (List.length x3.1 : Int) 32)))) then (al7 (IntKind.wrap .i64 (level - 1))).bind fun x27 => (if (decide (p.hi ≤ (IntKind.wrap .i64 ((IntKind.wrap .i64 ((IntKind.wrap .i64 (i * 32)) + v21)) * x27)))) then some true else (al7 (IntKind.wrap .i64 (level - 1))).bind fun x29 => some (decide ((IntKind.wrap .i64 ((IntKind.wrap .i64 ((IntKind.wrap .i64 ((IntKind.wrap .i64 (i * 32)) + v21)) * x27)) + x29)) ≤ p.lo))).bind fun t30 => if t30 then some (.cont (out,(IntKind.wrap .i64 (v21 + 1)),v22,v23,v24)) else (cut x3.1 (IntKind.wrap .i64 (v21 * 32)) (IntKind.wrap .i64 ((IntKind.wrap .i64 (v21 + 1)) * 32))).bind fun x32 => (rec_ p x32 (IntKind.wrap .i64 (level - 1)) (IntKind.wrap .i64 ((IntKind.wrap .i64 (i * 32)) + v21)) (aa0.mk v22 v23) v24).bind fun x33 => if (!decide (x33.2.1 = 0)) then some (.done ([],x33.2.1,x33.2.2.1,x33.2.2.2)) else (bi3 out x33.1).bind fun x35 => some (.cont (x35,(IntKind.wrap .i64 (v21 + 1)),x33.2.2.1.Cap,x33.2.2.1.Blocks,x33.2.2.2)) else some (.done (out,0,(aa0.mk v22 v23),v24))
def ah0 (rec_ : ag6 → Str → Int → Int → aa0 → (List Str) → Option (Str × Int × aa0 × (List Str))) (p : ag6) (score : Str) (level : Int) (i : Int) (store : aa0) (l : (List Str)) (p2 : Int) : Option (Str × Int × aa0 × (List Str)) :=
  (af0 score p2 store l).bind fun x3 => if (!decide (x3.2.1 = 0)) then some ([],x3.2.1,x3.2.2.1,x3.2.2.2) else (ag9 p level i).bind fun x5 => if (!decide ((List.length x3.1 : Int) = x5)) then some ([],2,x3.2.2.1,x3.2.2.2) else (al7 level).bind fun x7 => if (decide (level = 0)) then (cut x3.1 (max 0 (IntKind.wrap .i64 (p.lo - (IntKind.wrap .i64 (i * x7))))) (min (List.length x3.1 : Int) (IntKind.wrap .i64 (p.hi - (IntKind.wrap .i64 (i * x7)))))).bind fun x9 => some (x9,0,x3.2.2.1,x3.2.2.2) else ae4 (fun s => ag7 rec_ p level i x3 s.1 s.2.1 s.2.2.1 s.2.2.2.1 s.2.2.2.2) ([],0,x3.2.2.1.Cap,x3.2.2.1.Blocks,x3.2.2.2)
def aj5 (rec_ : ag6 → Str → Int → Int → aa0 → (List Str) → Option (Str × Int × aa0 × (List Str))) (p : ag6) (score : Str) (level : Int) (i : Int) (store : aa0) (l : (List Str)) : Option (Str × Int × aa0 × (List Str)) :=
  if (decide (level = 0)) then ah0 rec_ p score level i store l p.kind else ah0 rec_ p score level i store l 2
def af6 : Nat → ag6 → Str → Int → Int → aa0 → (List Str) → Option (Str × Int × aa0 × (List Str))
  | 0,_,_,_,_,_,_ => none
  | n_ + 1,p,score,level,i,store,l => aj5 (af6 n_) p score level i store l
def ae6 (r_ : aq4) (kind : Int) (store : aa0) (l : (List Str)) : Option (Str × Int × aa0 × (List Str)) :=
  (aA7 r_).bind fun x1 => if (!x1) then some ([],2,store,l) else if (decide (r_.Length = 0)) then (af0 r_.Score kind store l).bind fun x4 => if ((decide (x4.2.1 = 0)) && (!decide (x4.1 = []))) then some ([],2,x4.2.2.1,x4.2.2.2) else some ([],x4.2.1,x4.2.2.1,x4.2.2.2) else (af6 16 (ag6.mk kind r_.Length 0 r_.Length) r_.Score r_.Levels 0 store l).bind fun x8 => some (x8.1,x8.2.1,x8.2.2.1,x8.2.2.2)
def aj0 (s_ : Str) (v6 : aa5) (out : (List aa2)) : Option (Step (aa5 × (List aa2)) ((List aa2) × Bool)) :=
  if ((decide (v6.at_ < (List.length s_ : Int))) && (!v6.bad)) then (ag0 v6).bind fun x12 => (aZ9 160 out [x12.1]).bind fun x13 => some (.cont (x12.2,x13)) else some (.done (out,(!v6.bad)))
def ar6 (s_ : Str) : Option ((List aa2) × Bool) :=
  ae4 (fun s => aj0 s_ s.1 s.2) ((aa5.mk s_ 0 false),([] : List aa2))
def ar7 (k : aa2) (a1 : aa2) : Option Bool :=
  some (!decide (k.node.Parent = a1.node.Id))
def aa7 (s_ : (List aa2)) (f : aa2) (v5 : Int) : Option (Step Int Int) :=
  if (decide (v5 < (List.length s_ : Int))) then (ah3 s_ v5).bind fun x8 => (ar7 x8 f).bind fun x9 => if x9 then some (.done v5) else some (.cont (IntKind.wrap .i64 (v5 + 1))) else some (.done (-1))
def ad7 (s_ : (List aa2)) (f : aa2) : Option Int :=
  ae4 (fun s => aa7 s_ f s) 0
def ab1 (s_ : (List aa2)) (f : aa2) : Option Bool :=
  (ad7 s_ f).bind fun x1 => some (decide (0 ≤ x1))
def ac8 (rec_ : aa2 → Int → aa0 → (List Str) → (List aa1) → Option (Int × Int × aa0 × (List aa1) × (List Str))) (x10 : ((List aa2) × Bool)) (v19 : Int) (v20 : Int) (v21 : Int) (v22 : (List ac5)) (v23 : (List Str)) (v24 : (List aa1)) : Option (Step (Int × Int × Int × (List ac5) × (List Str) × (List aa1)) (Int × Int × aa0 × (List aa1) × (List Str))) :=
  if (decide (v19 < (List.length x10.1 : Int))) then (ah3 x10.1 v19).bind fun x27 => (rec_ x27 v20 (aa0.mk v21 v22) v23 v24).bind fun x28 => if (!decide (x28.1 = 0)) then some (.done (x28.1,x28.2.1,x28.2.2.1,x28.2.2.2.1,x28.2.2.2.2)) else some (.cont ((IntKind.wrap .i64 (v19 + 1)),x28.2.1,x28.2.2.1.Cap,x28.2.2.1.Blocks,x28.2.2.2.2,x28.2.2.2.1)) else some (.done (0,v20,(aa0.mk v21 v22),v24,v23))
def ad4 (rec_ : aa2 → Int → aa0 → (List Str) → (List aa1) → Option (Int × Int × aa0 × (List aa1) × (List Str))) (x_ : aa2) (most : Int) (store : aa0) (l : (List Str)) (l' : (List aa1)) (p3 : Int) : Option (Int × Int × aa0 × (List aa1) × (List Str)) :=
  (ae6 x_.root p3 store l).bind fun x4 => if (!decide (x4.2.1 = 0)) then some (x4.2.1,most,x4.2.2.1,l',x4.2.2.2) else (af3 x_.node).bind fun x6 => if (!x6) then (aZ9 128 l' [{x_.node with Data := x4.1}]).bind fun x8 => some (0,most,x4.2.2.1,x8,x4.2.2.2) else (aZ9 128 l' [x_.node]).bind fun x9 => (ar6 x4.1).bind fun x10 => (if (!x10.2) then some true else (ab1 x10.1 x_).bind fun x12 => some x12).bind fun t13 => if t13 then some (2,most,x4.2.2.1,x9,x4.2.2.2) else ae4 (fun s => ac8 rec_ x10 s.1 s.2.1 s.2.2.1 s.2.2.2.1 s.2.2.2.2.1 s.2.2.2.2.2) (0,most,x4.2.2.1.Cap,x4.2.2.1.Blocks,x4.2.2.2,x9)
def ag3 (rec_ : aa2 → Int → aa0 → (List Str) → (List aa1) → Option (Int × Int × aa0 × (List aa1) × (List Str))) (x_ : aa2) (most : Int) (store : aa0) (l : (List Str)) (l' : (List aa1)) : Option (Int × Int × aa0 × (List aa1) × (List Str)) :=
  if (decide (most ≤ (List.length l' : Int))) then some (2,most,store,l',l) else (af3 x_.node).bind fun x30 => if x30 then ad4 rec_ x_ most store l l' 3 else ad4 rec_ x_ most store l l' 1
def ac1 : Nat → aa2 → Int → aa0 → (List Str) → (List aa1) → Option (Int × Int × aa0 × (List aa1) × (List Str))
  | 0,_,_,_,_,_ => none
  | n_ + 1,x_,most,store,l,l' => ag3 (ac1 n_) x_ most store l l'
def at2 (x10 : ((List aa2) × Bool)) (v19 : Int) (v20 : Int) (v21 : Int) (v22 : (List ac5)) (v23 : (List Str)) (v24 : (List aa1)) : Option (Step (Int × Int × Int × (List ac5) × (List Str) × (List aa1)) (Int × Int × aa0 × (List aa1) × (List Str))) :=
  if (decide (v19 < (List.length x10.1 : Int))) then (ah3 x10.1 v19).bind fun x27 => (ac1 16 x27 v20 (aa0.mk v21 v22) v23 v24).bind fun x28 => if (!decide (x28.1 = 0)) then some (.done (x28.1,x28.2.1,x28.2.2.1,x28.2.2.2.1,x28.2.2.2.2)) else some (.cont ((IntKind.wrap .i64 (v19 + 1)),x28.2.1,x28.2.2.1.Cap,x28.2.2.1.Blocks,x28.2.2.2.2,x28.2.2.2.1)) else some (.done (0,v20,(aa0.mk v21 v22),v24,v23))
def ao1 (x_ : aa2) (most : Int) (store : aa0) (l : (List Str)) (p3 : Int) : Option (Int × Int × aa0 × (List aa1) × (List Str)) :=
  (ae6 x_.root p3 store l).bind fun x4 => if (!decide (x4.2.1 = 0)) then some (x4.2.1,most,x4.2.2.1,([] : List aa1),x4.2.2.2) else (af3 x_.node).bind fun x6 => if (!x6) then (aZ9 128 ([] : List aa1) [{x_.node with Data := x4.1}]).bind fun x8 => some (0,most,x4.2.2.1,x8,x4.2.2.2) else (aZ9 128 ([] : List aa1) [x_.node]).bind fun x9 => (ar6 x4.1).bind fun x10 => (if (!x10.2) then some true else (ab1 x10.1 x_).bind fun x12 => some x12).bind fun t13 => if t13 then some (2,most,x4.2.2.1,x9,x4.2.2.2) else ae4 (fun s => at2 x10 s.1 s.2.1 s.2.2.1 s.2.2.2.1 s.2.2.2.2.1 s.2.2.2.2.2) (0,most,x4.2.2.1.Cap,x4.2.2.1.Blocks,x4.2.2.2,x9)
def av2 (rec_ : aa2 → Int → aa0 → (List Str) → Option (Int × Int × aa0 × (List aa1) × (List Str))) (x_ : aa2) (most : Int) (store : aa0) (l : (List Str)) : Option (Int × Int × aa0 × (List aa1) × (List Str)) :=
  if (decide (most ≤ (0 : Int))) then some (2,most,store,([] : List aa1),l) else (af3 x_.node).bind fun x30 => if x30 then ao1 x_ most store l 3 else ao1 x_ most store l 1
def al8 : Nat → aa2 → Int → aa0 → (List Str) → Option (Int × Int × aa0 × (List aa1) × (List Str))
  | 0,_,_,_,_ => none
  | n_ + 1,x_,most,store,l => av2 (al8 n_) x_ most store l
def aq6 (p8 : Int) (p9 : Int) : Option Int :=
  (aC4 [0,1,2,2,3,3,3,3,4,4,4,4,4,4,4,4,5,5,5,5,5,5,5,5,5,5,5,5,5,5,5,5,6,6,6,6,6,6,6,6,6,6,6,6,6,6,6,6,6,6,6,6,6,6,6,6,6,6,6,6,6,6,6,6,7,7,7,7,7,7,7,7,7,7,7,7,7,7,7,7,7,7,7,7,7,7,7,7,7,7,7,7,7,7,7,7,7,7,7,7,7,7,7,7,7,7,7,7,7,7,7,7,7,7,7,7,7,7,7,7,7,7,7,7,7,7,7,7,8,8,8,8,8,8,8,8,8,8,8,8,8,8,8,8,8,8,8,8,8,8,8,8,8,8,8,8,8,8,8,8,8,8,8,8,8,8,8,8,8,8,8,8,8,8,8,8,8,8,8,8,8,8,8,8,8,8,8,8,8,8,8,8,8,8,8,8,8,8,8,8,8,8,8,8,8,8,8,8,8,8,8,8,8,8,8,8,8,8,8,8,8,8,8,8,8,8,8,8,8,8,8,8,8,8,8,8,8,8,8,8,8,8,8,8,8,8,8,8,8,8,8,8,8,8,8,8] (IntKind.wrap .u8 p8)).bind fun c10 => some (IntKind.wrap .i64 (p9 + (IntKind.wrap .i64 (c10.toNat : Int))))
def aq7 (p5 : Int) (p6 : Int) : Option Int :=
  if (decide (256 ≤ p5)) then (bi4 .u64 p5 8).bind fun x12 => aq6 x12 (IntKind.wrap .i64 (p6 + 8)) else aq6 p5 p6
def aq8 (p2 : Int) (p3 : Int) : Option Int :=
  if (decide (65536 ≤ p2)) then (bi4 .u64 p2 16).bind fun x14 => aq7 x14 (IntKind.wrap .i64 (p3 + 16)) else aq7 p2 p3
def aD1 (x_ : Int) : Option Int :=
  if (decide (4294967296 ≤ x_)) then (bi4 .u64 x_ 32).bind fun x16 => aq8 x16 32 else aq8 x_ 0
def as2 (x_ : Int) : Option Int :=
  (aD1 x_).bind fun x1 => some x1
def aA8 (x_ : Int) : Option Bool :=
  some (!decide (x_ = x_))
def av3 (x_ : Int) (y : Int) : Option Int :=
  (aA8 x_).bind fun x1 => (aA8 y).bind fun x2 => if x1 then if x2 then some 0 else some (-1) else if x2 then some 1 else if (decide (x_ < y)) then some (-1) else if (decide (y < x_)) then some 1 else some 0
def al9 (m : aa1) (n : aa1) : Option Int :=
  (av3 m.Id n.Id).bind fun x1 => some x1
def aa9 (a : Int) (i : Int) (j : Int) (data_1 : (List aa1)) : Option (Step (Int × (List aa1)) (Step (Int × (List aa1)) (List aa1))) :=
  (if (decide (a < j)) then (ah3 data_1 j).bind fun x43 => (ah3 data_1 (IntKind.wrap .i64 (j - 1))).bind fun x44 => (al9 x43 x44).bind fun x45 => some (decide (x45 < 0)) else some false).bind fun t46 => if t46 then (ah3 data_1 (IntKind.wrap .i64 (j - 1))).bind fun x48 => (ah3 data_1 j).bind fun x49 => (ah3 data_1 j).bind fun x50 => (ah3 (List.set data_1 (Int.toNat j) x48) (IntKind.wrap .i64 (j - 1))).bind fun x51 => some (.cont ((IntKind.wrap .i64 (j - 1)),(List.set (List.set data_1 (Int.toNat j) x48) (Int.toNat (IntKind.wrap .i64 (j - 1))) x49))) else some (.done (.cont ((IntKind.wrap .i64 (i + 1)),data_1)))
def ab0 (a : Int) (b : Int) (i : Int) (data : (List aa1)) : Option (Step (Int × (List aa1)) (List aa1)) :=
  if (decide (i < b)) then ae4 (fun s => aa9 a i s.1 s.2) (i,data) else some (.done data)
def ac0 (a : Int) (b : Int) (l : (List aa1)) : Option (List aa1) :=
  ae4 (fun s => ab0 a b s.1 s.2) ((IntKind.wrap .i64 (a + 1)),l)
def af7 (a : Int) (b : Int) (limit : Int) (l : (List aa1)) : Option (Step Unit (List aa1)) :=
  if (decide ((IntKind.wrap .i64 (b - a)) ≤ 12)) then (aL7 (ac0 a b l) (fun r => r) l).bind fun x3 => some (.done x3) else if (decide (limit = 0)) then none else none
def ad1 (a : Int) (b : Int) (limit : Int) (l : (List aa1)) : Option (List aa1) :=
  ae4 (fun (_ : Unit) => af7 a b limit l) ()
def ac4 (l : (List aa1)) : Option (List aa1) :=
  (as2 (IntKind.wrap .u64 (List.length l : Int))).bind fun x1 => (aL7 (ad1 0 (List.length l : Int) x1 l) (fun r => r) l).bind fun x2 => some x2
def am0 (score : Str) (store : aa0) (l : (List Str)) : Option (aa3 × Int × aa0 × (List Str)) :=
  (af0 score 4 store l).bind fun x1 => if (!decide (x1.2.1 = 0)) then some ((aa3.mk 0 ([] : List aa1)),x1.2.1,x1.2.2.1,x1.2.2.2) else (aa6 4 (aa5.mk x1.1 0 false)).bind fun x3 => (aa6 4 x3.2).bind fun x4 => (ag0 x4.2).bind fun x5 => if (x5.2.bad || ((!decide (x5.2.at_ = (List.length x1.1 : Int))) || ((decide (x4.1 < 1)) || (decide (1024 < x4.1))))) then some ((aa3.mk 0 ([] : List aa1)),2,x1.2.2.1,x1.2.2.2) else (al8 16 x5.1 x4.1 x1.2.2.1 x1.2.2.2).bind fun x11 => if (!decide (x11.1 = 0)) then some ((aa3.mk 0 ([] : List aa1)),x11.1,x11.2.2.1,x11.2.2.2.2) else (aL7 (ac4 x11.2.2.2.1) (fun r => r) x11.2.2.2.1).bind fun x13 => (if (!decide ((List.length x13 : Int) = x4.1)) then some true else (aB2 (aa3.mk x3.1 x13)).bind fun x15 => some (!x15)).bind fun t16 => if t16 then some ((aa3.mk 0 ([] : List aa1)),2,x11.2.2.1,x11.2.2.2.2) else some ((aa3.mk x3.1 x13),0,x11.2.2.1,x11.2.2.2.2)
def av4 (s_ : aa0) (score : Str) : Option (aa3 × Int) :=
  (ap2 s_).bind fun x1 => (am0 score x1.1 x1.2).bind fun x2 => some (x2.1,x2.2.1)
def av5 (a : aa3) (b : aa3) (i : Int) : Option (Step Int Bool) :=
  if (decide (i < (List.length a.Nodes : Int))) then (ah3 a.Nodes i).bind fun x11 => (ah3 b.Nodes i).bind fun x12 => if (!(decide (x11.Id = x12.Id) && (decide (x11.Parent = x12.Parent) && (decide (x11.Vers = x12.Vers) && (decide (x11.Name = x12.Name) && (decide (x11.Mode = x12.Mode) && (decide (x11.Uid = x12.Uid) && (decide (x11.Gid = x12.Gid) && (decide (x11.Muid = x12.Muid) && (decide (x11.Atime = x12.Atime) && (decide (x11.Mtime = x12.Mtime) && (decide (x11.Data = x12.Data) && true)))))))))))) then some (.done false) else some (.cont (IntKind.wrap .i64 (i + 1))) else some (.done true)
def aN7 (a : aa3) (b : aa3) : Option Bool :=
  if ((!decide (a.Next = b.Next)) || (!decide ((List.length a.Nodes : Int) = (List.length b.Nodes : Int)))) then some false else ae4 (fun s => av5 a b s) 0
def as3 (t_ : aa3) (ok : Bool) (p : Str) (steps : Int) (v14 : aa1) : Option (Step (Bool × Str × Int × aa1) (Str × Int)) :=
  if ((!decide (v14.Id = 1)) && (ok && (decide (steps ≤ (List.length t_.Nodes : Int))))) then (bi3 [47] v14.Name).bind fun x20 => (bi3 x20 p).bind fun x21 => (aC6 t_ v14.Parent).bind fun x22 => some (.cont (x22.2,x21,(IntKind.wrap .i64 (steps + 1)),x22.1)) else some (.done (p,0))
def aD2 (t_ : aa3) (id : Int) : Option (Str × Int) :=
  (aC6 t_ id).bind fun x1 => if (!x1.2) then some ([],8) else if (decide (id = 1)) then some ([47],0) else ae4 (fun s => as3 t_ s.1 s.2.1 s.2.2.1 s.2.2.2) (x1.2,[],0,x1.1)
def ao2 (t_ : aa3) (v5 : Int) (out : (List ab2)) : Option (Step (Int × (List ab2)) (List ab2)) :=
  if (decide (v5 < (List.length t_.Nodes : Int))) then (ah3 t_.Nodes v5).bind fun x9 => (aD2 t_ x9.Id).bind fun x10 => (aZ9 144 out [(ab2.mk x10.1 {x9 with Id := 0,Parent := 0})]).bind fun x11 => some (.cont ((IntKind.wrap .i64 (v5 + 1)),x11)) else some (.done out)
def ap9 (t_ : aa3) : Option (List ab2) :=
  ae4 (fun s => ao2 t_ s.1 s.2) (0,([] : List ab2))
def ab4 (s_ : (List ab2)) (v : ab2) (v4 : Int) : Option (Step Int Int) :=
  if (decide (v4 < (List.length s_ : Int))) then (ah3 s_ v4).bind fun x7 => if (decide (v.path = x7.path) && (decide (v.node.Id = x7.node.Id) && (decide (v.node.Parent = x7.node.Parent) && (decide (v.node.Vers = x7.node.Vers) && (decide (v.node.Name = x7.node.Name) && (decide (v.node.Mode = x7.node.Mode) && (decide (v.node.Uid = x7.node.Uid) && (decide (v.node.Gid = x7.node.Gid) && (decide (v.node.Muid = x7.node.Muid) && (decide (v.node.Atime = x7.node.Atime) && (decide (v.node.Mtime = x7.node.Mtime) && (decide (v.node.Data = x7.node.Data) && true)))))))))))) then some (.done v4) else some (.cont (IntKind.wrap .i64 (v4 + 1))) else some (.done (-1))
def ad6 (s_ : (List ab2)) (v : ab2) : Option Int :=
  ae4 (fun s => ab4 s_ v s) 0
def ab8 (s_ : (List ab2)) (v : ab2) : Option Bool :=
  (ad6 s_ v).bind fun x1 => some (decide (0 ≤ x1))
def az4 (x_ : Str) : Option Bool :=
  some (!decide (x_ = x_))
def aM0 (x_ : Str) (y : Str) : Option Bool :=
  (az4 x_).bind fun x1 => (if x1 then (az4 y).bind fun x3 => if (!x3) then some true else some (blt x_ y) else some (blt x_ y)).bind fun t5 => some t5
def aj1 (data : (List Str)) (a : Int) (i : Int) : Option (Step Unit (Step Int Unit)) :=
  (if (decide (a < i)) then (ah3 data i).bind fun x17 => (ah3 data (IntKind.wrap .i64 (i - 1))).bind fun x18 => (aM0 x17 x18).bind fun x19 => some x19 else some false).bind fun t20 => if t20 then (ah3 data (IntKind.wrap .i64 (i - 1))).bind fun x22 => (ah3 data i).bind fun x23 => (ah3 data i).bind fun x24 => none else some (.done (.cont (IntKind.wrap .i64 (i + 1))))
def ag1 (data : (List Str)) (a : Int) (b : Int) (i : Int) : Option (Step Int Unit) :=
  if (decide (i < b)) then ae4 (fun (_ : Unit) => aj1 data a i) () else some (.done ())
def ae5 (data : (List Str)) (a : Int) (b : Int) : Option Unit :=
  ae4 (fun s => ag1 data a b s) (IntKind.wrap .i64 (a + 1))
def ai0 (data : (List Str)) (a : Int) (b : Int) (limit : Int) : Option (Step Unit Unit) :=
  if (decide ((IntKind.wrap .i64 (b - a)) ≤ 12)) then (ae5 data a b).bind fun x3 => some (.done ()) else if (decide (limit = 0)) then none else none
def ah1 (data : (List Str)) (a : Int) (b : Int) (limit : Int) : Option Unit :=
  ae4 (fun (_ : Unit) => ai0 data a b limit) ()
def ai3 (x_ : (List Str)) : Option Unit :=
  (as2 (IntKind.wrap .u64 (List.length x_ : Int))).bind fun x1 => (ah1 x_ 0 (List.length x_ : Int) x1).bind fun x2 => some ()
def am5 (s_ : (List Str)) (k : Int) : Option (Step Int (List Str)) :=
  (cut s_ k (List.length s_ : Int)).bind fun x44 => none
def am6 (s_ : (List Str)) (k : Int) (x29 : (List Str)) (k2 : Int) : Option (Step Int (Step Int (List Str))) :=
  if (decide (k2 < (List.length x29 : Int))) then (ah3 x29 k2).bind fun x39 => (ah3 x29 (IntKind.wrap .i64 (k2 - 1))).bind fun x40 => if (!decide (x39 = x40)) then (ah3 x29 k2).bind fun x42 => (ah3 s_ k).bind fun x43 => none else some (.cont (IntKind.wrap .i64 (k2 + 1))) else (am5 s_ k).map .done
def am7 (s_ : (List Str)) (k : Int) : Option (Step Int (List Str)) :=
  if (decide (k < (List.length s_ : Int))) then (ah3 s_ k).bind fun x26 => (ah3 s_ (IntKind.wrap .i64 (k - 1))).bind fun x27 => if (decide (x26 = x27)) then (cut s_ k (List.length s_ : Int)).bind fun x29 => ae4 (fun s => am6 s_ k x29 s) 1 else some (.cont (IntKind.wrap .i64 (k + 1))) else some (.done s_)
def ah2 (s_ : (List Str)) : Option (List Str) :=
  if (decide ((List.length s_ : Int) < 2)) then some s_ else ae4 (fun s => am7 s_ s) 1
def ap3 (out_1 : (List Str)) : Option (List Str) :=
  (ai3 out_1).bind fun x29 => (ah2 out_1).bind fun x30 => some x30
def ai1 (x1 : (List ab2)) (x2 : (List ab2)) (v21 : Int) (out_1 : (List Str)) : Option (Step (Int × (List Str)) (List Str)) :=
  if (decide (v21 < (List.length x2 : Int))) then (ah3 x2 v21).bind fun x25 => (ab8 x1 x25).bind fun x26 => if (!x26) then (aZ9 16 out_1 [x25.path]).bind fun x28 => some (.cont ((IntKind.wrap .i64 (v21 + 1)),x28)) else some (.cont ((IntKind.wrap .i64 (v21 + 1)),out_1)) else (ap3 out_1).map .done
def ak6 (x1 : (List ab2)) (x2 : (List ab2)) (v8 : Int) (out : (List Str)) : Option (Step (Int × (List Str)) (List Str)) :=
  if (decide (v8 < (List.length x1 : Int))) then (ah3 x1 v8).bind fun x12 => (ab8 x2 x12).bind fun x13 => if (!x13) then (aZ9 16 out [x12.path]).bind fun x15 => some (.cont ((IntKind.wrap .i64 (v8 + 1)),x15)) else some (.cont ((IntKind.wrap .i64 (v8 + 1)),out)) else (ae4 (fun s => ai1 x1 x2 s.1 s.2) (0,out)).map .done
def av6 (a : aa3) (b : aa3) : Option (List Str) :=
  (ap9 a).bind fun x1 => (ap9 b).bind fun x2 => ae4 (fun s => ak6 x1 x2 s.1 s.2) (0,([] : List Str))
def av7 : Option Bool :=
  (as5).bind fun x39 => some x39
def am1 (t_ : aa3) (x11 : (aa3 × Int)) (v28 : Int) : Option (Step Int Bool) :=
  if (decide (v28 < (List.length t_.Nodes : Int))) then (ah3 t_.Nodes v28).bind fun x31 => (aD2 t_ x31.Id).bind fun x32 => (ah3 t_.Nodes v28).bind fun x33 => (aD2 x11.1 x33.Id).bind fun x34 => if ((!decide (x32.1 = x34.1)) || ((!decide (x32.2 = 0)) || (!decide (x34.2 = 0)))) then some (.done false) else some (.cont (IntKind.wrap .i64 (v28 + 1))) else (av7).map .done
def aF6 (t_ : aa3) : Option Bool :=
  (aA2 t_).bind fun x1 => (if (!x1) then some true else (aC5 t_).bind fun x3 => some (!x3)).bind fun t4 => if t4 then (as5).bind fun x6 => some x6 else (aU6 400).bind fun x7 => (ar5 x7 t_).bind fun x8 => if (decide (x8.2.2 = 34)) then (as5).bind fun x10 => some x10 else (av4 x8.1 x8.2.1).bind fun x11 => (if (!decide (x8.2.2 = 0)) then some true else if (!decide (x11.2 = 0)) then some true else (aN7 t_ x11.1).bind fun x14 => if (!x14) then some true else (av6 t_ x11.1).bind fun x16 => some (!decide ((List.length x16 : Int) = 0))).bind fun t17 => if t17 then some false else ae4 (fun s => am1 t_ x11 s) 0
end
end Go.Proofs.YteejnomnholelaaGreatDoor
