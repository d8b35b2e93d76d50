import Derived.Test.YtofpfpkjdigabaaGreatDoorVmX
import Derived.Test.YtofpfpkjdigabaaGreatDoorVmB
import Derived.Test.YtofpfpkjdigabaaGreatDoorVmI
namespace Go.Proofs.YtofpfpkjdigabaaGreatDoor
open Go.Vm
set_option autoImplicit false
set_option linter.unusedVariables false
set_option linter.unusedSimpArgs false
set_option maxRecDepth 100000
noncomputable section
abbrev Str := List UInt8
structure aa4 where
  Name : Str
  Value : Str
  Query : Bool
  deriving Inhabited
def zE1 (x : aa4) : PV := .agg [.str x.Name,.str x.Value,.bool x.Query]
structure aa3 where
  Attrs : (List aa4)
  deriving Inhabited
def zE2 (x : aa3) : PV := .agg [.sl (some 3) (List.map zE1 x.Attrs)]
structure aa2 where
  Net : Str
  Host : Str
  Service : Str
  deriving Inhabited
def zE3 (x : aa2) : PV := .agg [.str x.Net,.str x.Host,.str x.Service]
structure aa0 where
  Id : Int
  Host : Str
  Owner : Str
  State : Int
  Local : aa2
  Remote : aa2
  Peer : Int
  Data : Str
  Backlog : (List Int)
  Opens : Int
  deriving Inhabited
def zE4 (x : aa0) : PV := .agg [.int .i64 x.Id,.str x.Host,.str x.Owner,.int .i64 x.State,.str x.Local.Net,.str x.Local.Host,.str x.Local.Service,.str x.Remote.Net,.str x.Remote.Host,.str x.Remote.Service,.int .i64 x.Peer,.str x.Data,.sl none (List.map (PV.int .i64) x.Backlog),.int .i64 x.Opens]
structure aa1 where
  Db : (List aa3)
  Next : Int
  Talks : (List aa0)
  deriving Inhabited
def zE5 (x : aa1) : PV := .agg [.sl (some 1) (List.map zE2 x.Db),.int .i64 x.Next,.sl (some 14) (List.map zE4 x.Talks)]
structure aa5 where
  id : Int
  at_ : Int
  part : Int
  deriving Inhabited
def zE6 (x : aa5) : PV := .agg [.int .i64 x.id,.int .i64 x.at_,.int .i64 x.part]
structure aJ4 where
  Type_ : Int
  Vers : Int
  Path : Int
  deriving Inhabited
structure ab3 where
  Type_ : Int
  Dev : Int
  Qid : aJ4
  Mode : Int
  Atime : Int
  Mtime : Int
  Length : Int
  Name : Str
  Uid : Str
  Gid : Str
  Muid : Str
  deriving Inhabited
def zE8 (x : ab3) : PV := .agg [.int .i64 x.Type_,.int .i64 x.Dev,.int .i64 x.Qid.Type_,.int .i64 x.Qid.Vers,.int .i64 x.Qid.Path,.int .i64 x.Mode,.int .i64 x.Atime,.int .i64 x.Mtime,.int .i64 x.Length,.str x.Name,.str x.Uid,.str x.Gid,.str x.Muid]
structure an4 where
  Kind : Int
  Host : Str
  User : Str
  Id : Int
  Mode : Int
  Offset : Int
  Count : Int
  Text : Str
  deriving Inhabited
def zE9 (x : an4) : PV := .agg [.int .i64 x.Kind,.str x.Host,.str x.User,.int .i64 x.Id,.int .i64 x.Mode,.int .i64 x.Offset,.int .i64 x.Count,.str x.Text]
structure ad9 where
  N : Int
  Text : Str
  Blocked : Bool
  Err : Int
  deriving Inhabited
def zE10 (x : ad9) : PV := .agg [.int .i64 x.N,.str x.Text,.bool x.Blocked,.int .i64 x.Err]
def aJ5 (a : aa2) : Option Bool :=
  some ((decide ((List.length a.Net : Int) ≤ 200)) && ((decide ((List.length a.Host : Int) ≤ 200)) && (decide ((List.length a.Service : Int) ≤ 200))))
def at7 (n : aa1) (v26 : Int) (x31 : aa3) (v40 : Int) : Option (Step Int (Step Int Bool)) :=
  if (decide (v40 < (List.length x31.Attrs : Int))) then (aa9 n.Db v26).bind fun x43 => (aa9 x43.Attrs v40).bind fun x44 => (if (decide (200 < (List.length x44.Name : Int))) then some true else (aa9 n.Db v26).bind fun x46 => (aa9 x46.Attrs v40).bind fun x47 => some (decide (200 < (List.length x47.Value : Int)))).bind fun t48 => if t48 then some (.done (.done false)) else some (.cont (IntKind.wrap .i64 (v40 + 1))) else some (.done (.cont (IntKind.wrap .i64 (v26 + 1))))
def at8 (n : aa1) (v61 : Int) : Option (Step Int Bool) :=
  if (decide (v61 < (List.length n.Talks : Int))) then (aa9 n.Talks v61).bind fun x64 => (if (decide (20 < (List.length x64.Backlog : Int))) then some true else if (decide (10000 < (List.length x64.Data : Int))) then some true else if (decide (200 < (List.length x64.Host : Int))) then some true else if (decide (200 < (List.length x64.Owner : Int))) then some true else (aJ5 x64.Local).bind fun x69 => if (!x69) then some true else (aJ5 x64.Remote).bind fun x71 => some (!x71)).bind fun t72 => if t72 then some (.done false) else some (.cont (IntKind.wrap .i64 (v61 + 1))) else some (.done true)
def aA1 (n : aa1) (v26 : Int) : Option (Step Int Bool) :=
  if (decide (v26 < (List.length n.Db : Int))) then (aa9 n.Db v26).bind fun x29 => if (decide (20 < (List.length x29.Attrs : Int))) then some (.done false) else (aa9 n.Db v26).bind fun x31 => ab0 (fun s => at7 n v26 x31 s) 0 else (ab0 (fun s => at8 n s) 0).map .done
def aq4 (n : aa1) : Option Bool :=
  if ((decide (30 < (List.length n.Talks : Int))) || (decide (30 < (List.length n.Db : Int)))) then some false else ab0 (fun s => aA1 n s) 0
def aO8 (name : Str) (value : Str) : Option aa3 :=
  some (aa3.mk [(aa4.mk name value false)])
def aC5 : Option aa1 :=
  (aO8 [110,101,116] [116,99,112]).bind fun x1 => (aO8 [104,111,115,116] [97]).bind fun x2 => (aO8 [104,111,115,116] [98]).bind fun x3 => some (aa1.mk [x1,x2,x3] 1 ([] : List aa0))
def al4 : Option (List aa3) :=
  some ([] : List aa3)
def ah5 : Option (List aa3) :=
  (ar7 24 ([] : List aa3) []).bind fun x1 => some x1
def ac7 (s_ : (List aa3)) : Option (List aa3) :=
  (ar7 24 ([] : List aa3) s_).bind fun x1 => some x1
def an2 : Option (List aa4) :=
  some ([] : List aa4)
def ai1 : Option (List aa4) :=
  (ar7 40 ([] : List aa4) []).bind fun x1 => some x1
def ad6 (s_ : (List aa4)) : Option (List aa4) :=
  (ar7 40 ([] : List aa4) s_).bind fun x1 => some x1
def an3 : Option (List aa0) :=
  some ([] : List aa0)
def ai2 : Option (List aa0) :=
  (ar7 200 ([] : List aa0) []).bind fun x1 => some x1
def ad7 (s_ : (List aa0)) : Option (List aa0) :=
  (ar7 200 ([] : List aa0) s_).bind fun x1 => some x1
def aC0 : Option (List Int) :=
  some ([] : List Int)
def as6 : Option (List Int) :=
  (ar7 8 ([] : List Int) []).bind fun x1 => some x1
def ae7 (s_ : (List Int)) : Option (List Int) :=
  (ar7 8 ([] : List Int) s_).bind fun x1 => some x1
def aj6 (n : aa1) (v7 : (List aa3)) (x13 : (List aa0)) (v19 : Int) (v20 : (List aa0)) : Option (Step (Int × (List aa0)) aa1) :=
  if (decide (v19 < (List.length x13 : Int))) then (aa9 v20 v19).bind fun x23 => (ae7 x23.Backlog).bind fun x24 => (aa9 v20 v19).bind fun x25 => some (.cont ((IntKind.wrap .i64 (v19 + 1)),(List.set v20 (Int.toNat v19) {x25 with Backlog := x24}))) else if (decide (List.length v20 ≤ Int.toNat v19)) then some (.done (aa1.mk v7 n.Next v20)) else none
def ay5 (n : aa1) (v7 : (List aa3)) : Option aa1 :=
  (ad7 n.Talks).bind fun x13 => ab0 (fun s => aj6 n v7 x13 s.1 s.2) (0,x13)
def ak6 (n : aa1) (x1 : (List aa3)) (v6 : Int) (v7 : (List aa3)) : Option (Step (Int × (List aa3)) aa1) :=
  if (decide (v6 < (List.length x1 : Int))) then (aa9 v7 v6).bind fun x10 => (ad6 x10.Attrs).bind fun x11 => (aa9 v7 v6).bind fun x12 => some (.cont ((IntKind.wrap .i64 (v6 + 1)),(List.set v7 (Int.toNat v6) (aa3.mk x11)))) else (ay5 n v7).map .done
def ah1 (n : aa1) : Option aa1 :=
  (ac7 n.Db).bind fun x1 => ab0 (fun s => ak6 n x1 s.1 s.2) (0,x1)
def aW7 (t_ : aa0) (a1 : Int) : Option Bool :=
  some (decide (t_.Id = a1))
def ad3 (s_ : (List aa0)) (f : Int) (v5 : Int) : Option (Step Int Int) :=
  if (decide (v5 < (List.length s_ : Int))) then (aa9 s_ v5).bind fun x8 => (aW7 x8 f).bind fun x9 => if x9 then some (.done v5) else some (.cont (IntKind.wrap .i64 (v5 + 1))) else some (.done (-1))
def ag8 (s_ : (List aa0)) (f : Int) : Option Int :=
  ab0 (fun s => ad3 s_ f s) 0
def ag5 (n : aa1) (id : Int) : Option Int :=
  (ag8 n.Talks id).bind fun x1 => some x1
def ab7 (n : aa1) (host : Str) (id : Int) : Option (aa5 × Bool) :=
  if ((decide (id = 1)) || (decide (id = 3))) then some ((aa5.mk id (-1) 0),true) else if ((decide (id < 16)) || (decide (6 < (Int.tmod id 16)))) then some ((aa5.mk 0 0 0),false) else (ag5 n (IntKind.wrap .i64 (Int.tdiv id 16))).bind fun x7 => (if (decide (0 ≤ x7)) then (aa9 n.Talks x7).bind fun x9 => some (decide (x9.Host = host)) else some false).bind fun t10 => some ((aa5.mk id x7 (Int.tmod id 16)),t10)
def a00 (mode : Int) (bit : Int) : Option Bool :=
  (if (decide (0 ≤ mode)) then (ce5 .i64 mode bit).bind fun x2 => some (decide ((Int.tmod x2 2) = 1)) else some false).bind fun t3 => some t3
def aF1 (mode : Int) (p4 : Int) : Option (Int × Int) :=
  if ((decide (p4 < 0)) || (decide (3 < p4))) then some (0,12) else (aa9 [4,2,6,1] p4).bind fun x8 => (a00 mode 16).bind fun x9 => if x9 then some ((IntKind.wrap .i64 ((BitVec.ofInt (IntKind.bits .i64) x8 ||| (BitVec.ofInt (IntKind.bits .i64) 2)).toNat : Nat)),0) else some (x8,0)
def aM1 (mode : Int) (p2 : Int) : Option (Int × Int) :=
  (a00 mode 64).bind fun x11 => if x11 then aF1 mode (IntKind.wrap .i64 (p2 - 64)) else aF1 mode p2
def aF2 (mode : Int) : Option (Int × Int) :=
  (a00 mode 16).bind fun x13 => if x13 then aM1 mode (IntKind.wrap .i64 (mode - 16)) else aM1 mode mode
def ab5 (f : aa5) : Option Bool :=
  some ((decide (f.id = 1)) || ((decide (0 ≤ f.at_)) && (decide (f.part = 0))))
def ak7 (f : aa5) : Option Int :=
  (ab5 f).bind fun x1 => if x1 then some 2147484013 else if (decide (f.id = 3)) then some 438 else if (decide (f.part ≤ 3)) then some 384 else some 292
def aW8 (base : Int) : Option Bool :=
  some ((decide (base = 8)) || ((decide (base = 10)) || (decide (base = 16))))
def aC6 (a0 : Int) (a1 : Int) : Option Str := aZ8 a0 a1
def a01 (n : Int) (base : Int) : Option Str :=
  (aW8 base).bind fun x1 => if (!x1) then some [] else (aC6 n base).bind fun x3 => some x3
def at9 (f : aa5) : Option Str :=
  if (decide (f.id = 1)) then some [47] else if (decide (f.id = 3)) then some [99,108,111,110,101] else (a01 (IntKind.wrap .i64 (Int.tdiv f.id 16)) 10).bind fun x3 => (aa9 [x3,[99,116,108],[100,97,116,97],[108,105,115,116,101,110],[115,116,97,116,117,115],[108,111,99,97,108],[114,101,109,111,116,101]] f.part).bind fun x4 => some x4
def aE1 (n : aa1) (f : aa5) (x1 : Int) (x2 : Str) (p4 : Int) : Option ab3 :=
  if (decide (0 ≤ f.at_)) then (aa9 n.Talks f.at_).bind fun x6 => some (ab3.mk 7 0 (aJ4.mk p4 0 f.id) x1 0 0 0 x2 x6.Owner x6.Owner []) else some (ab3.mk 7 0 (aJ4.mk p4 0 f.id) x1 0 0 0 x2 [] [] [])
def aq5 (n : aa1) (f : aa5) : Option ab3 :=
  (ak7 f).bind fun x1 => (at9 f).bind fun x2 => (ab5 f).bind fun x7 => if x7 then aE1 n f x1 x2 128 else aE1 n f x1 x2 0
def al7 (mode : Int) (x1 : (Int × Int)) (p9 : Int) : Option Int :=
  if ((decide (64 ≤ mode)) || (!decide ((IntKind.wrap .i64 ((BitVec.ofInt (IntKind.bits .i64) x1.1 &&& ~~~ (BitVec.ofInt (IntKind.bits .i64) p9)).toNat : Nat)) = 0))) then some 11 else some 0
def ak8 (n : aa1) (f : aa5) (user : Str) (mode : Int) : Option Int :=
  (aF2 mode).bind fun x1 => if (!decide (x1.2 = 0)) then some x1.2 else (ab5 f).bind fun x3 => if (x3 && (!decide (mode = 0))) then some 10 else (ak7 f).bind fun x7 => (aq5 n f).bind fun x13 => if (decide (user = x13.Uid)) then (ak7 f).bind fun x15 => al7 mode x1 (Int.tmod (IntKind.wrap .i64 (Int.tdiv x15 64)) 8) else al7 mode x1 (Int.tmod x7 8)
def ag0 (n : aa1) (host : Str) (user : Str) (id : Int) (mode : Int) : Option (aa1 × Int × Bool × Int) :=
  (ah1 n).bind fun x1 => (ab7 n host id).bind fun x2 => if (!x2.2) then some (x1,0,false,8) else (ak8 n x2.1 user mode).bind fun x4 => if (!decide (x4 = 0)) then some (x1,0,false,x4) else (ab5 x2.1).bind fun x6 => if x6 then some (x1,id,false,0) else if (decide (x2.1.id = 3)) then if (decide (32 < (List.length user : Int))) then some (x1,0,false,25) else if ((decide (64 ≤ (List.length n.Talks : Int))) || (decide (1048575 < n.Next))) then some (x1,0,false,22) else (ar7 200 x1.Talks [(aa0.mk n.Next host user 1 (aa2.mk [] [] []) (aa2.mk [] [] []) 0 [] ([] : List Int) 1)]).bind fun x13 => some ((aa1.mk x1.Db (IntKind.wrap .i64 (x1.Next + 1)) x13),(IntKind.wrap .i64 ((IntKind.wrap .i64 (16 * n.Next)) + 1)),false,0) else if (decide (x2.1.part = 3)) then (aa9 n.Talks x2.1.at_).bind fun x15 => if (!decide (x15.State = 2)) then some (x1,0,false,43) else if (decide ((List.length x15.Backlog : Int) = 0)) then some (x1,0,true,0) else (aa9 x15.Backlog 0).bind fun x18 => (cut x15.Backlog 1 (List.length x15.Backlog : Int)).bind fun x19 => (ae7 x19).bind fun x20 => (aa9 x1.Talks x2.1.at_).bind fun x21 => (ag5 {x1 with Talks := List.set x1.Talks (Int.toNat x2.1.at_) {x21 with Backlog := x20}} x18).bind fun x22 => (aa9 (List.set x1.Talks (Int.toNat x2.1.at_) {x21 with Backlog := x20}) x22).bind fun x23 => some ({x1 with Talks := List.set (List.set x1.Talks (Int.toNat x2.1.at_) {x21 with Backlog := x20}) (Int.toNat x22) {x23 with Opens := 1}},(IntKind.wrap .i64 ((IntKind.wrap .i64 (16 * x18)) + 1)),false,0) else (aa9 n.Talks x2.1.at_).bind fun x24 => if (decide (x24.Opens = 0)) then some (x1,0,false,43) else (aa9 n.Talks x2.1.at_).bind fun x26 => if (decide (9007199254740991 ≤ x26.Opens)) then some (x1,0,false,22) else (aa9 x1.Talks x2.1.at_).bind fun x28 => (aa9 x1.Talks x2.1.at_).bind fun x29 => some ({x1 with Talks := List.set x1.Talks (Int.toNat x2.1.at_) {x29 with Opens := IntKind.wrap .i64 (x28.Opens + 1)}},id,false,0)
def an0 (s_ : Str) (from_ : Int) (v24 : Int) (out : (List Str)) (p30 : Bool) : Option (Step (Int × Int × (List Str)) (List Str)) :=
  if p30 then if (decide (0 ≤ from_)) then (cut s_ from_ v24).bind fun x33 => (ar7 16 out [x33]).bind fun x34 => some (.cont ((-1),(IntKind.wrap .i64 (v24 + 1)),x34)) else some (.cont ((-1),(IntKind.wrap .i64 (v24 + 1)),out)) else if (decide (from_ < 0)) then some (.cont (v24,(IntKind.wrap .i64 (v24 + 1)),out)) else some (.cont (from_,(IntKind.wrap .i64 (v24 + 1)),out))
def aN5 (s_ : Str) (from_ : Int) (out : (List Str)) : Option (List Str) :=
  if (decide (0 ≤ from_)) then (cut s_ from_ (List.length s_ : Int)).bind fun x40 => (ar7 16 out [x40]).bind fun x41 => some x41 else some out
def aj1 (s_ : Str) (from_ : Int) (v24 : Int) (out : (List Str)) : Option (Step (Int × Int × (List Str)) (List Str)) :=
  if (decide (v24 < (List.length s_ : Int))) then (ai6 s_ v24).bind fun c28 => if (decide ((c28.toNat : Int) = 32)) then an0 s_ from_ v24 out (decide ((c28.toNat : Int) = 32)) else if (decide ((c28.toNat : Int) = 9)) then an0 s_ from_ v24 out (decide ((c28.toNat : Int) = 9)) else if (decide ((c28.toNat : Int) = 10)) then an0 s_ from_ v24 out (decide ((c28.toNat : Int) = 10)) else an0 s_ from_ v24 out (decide ((c28.toNat : Int) = 13)) else (aN5 s_ from_ out).map .done
def aI5 (s_ : Str) : Option (List Str) :=
  ab0 (fun s => aj1 s_ s.1 s.2.1 s.2.2) ((-1),0,([] : List Str))
def ap9 (s_ : Str) : Option Int :=
  none
def ak9 (s_ : Str) : Option (Int × Int) :=
  if (decide ((List.length s_ : Int) < 1)) then some (65533,0) else (ai6 s_ 0).bind fun c2 => none
def ao5 (s_ : Str) : Option (Int × Int) :=
  (if (!decide (s_ = [])) then (ai6 s_ 0).bind fun c2 => some (decide ((c2.toNat : Int) < 128)) else some false).bind fun t3 => if t3 then (ai6 s_ 0).bind fun c5 => some ((IntKind.wrap .i32 (c5.toNat : Int)),1) else (ak9 s_).bind fun x6 => some (x6.1,x6.2)
def aJ6 (p3 : Int) (s__1 : Str) (a : (List Str)) : Option (List Str) :=
  if (decide (0 < p3)) then (aa9 a (IntKind.wrap .i64 (p3 - 1))).bind fun x20 => some (List.set a (Int.toNat (IntKind.wrap .i64 (p3 - 1))) s__1) else some a
def aJ7 (p3 : Int) (s__1 : Str) (i : Int) (a : (List Str)) : Option (Step (Str × Int × (List Str)) (List Str)) :=
  if (decide (i < (IntKind.wrap .i64 (p3 - 1)))) then (ao5 s__1).bind fun x15 => (cut s__1 0 x15.2).bind fun x16 => (aa9 a i).bind fun x17 => (cut s__1 x15.2 (List.length s__1 : Int)).bind fun x18 => some (.cont (x18,(IntKind.wrap .i64 (i + 1)),(List.set a (Int.toNat i) x16))) else (aJ6 p3 s__1 a).map .done
def aA2 (s_ : Str) (p3 : Int) : Option (List Str) :=
  (mkC 16 ([] : Str) p3 p3).bind fun x4 => ab0 (fun s => aJ7 p3 s.1 s.2.1 s.2.2) (s_,0,x4)
def aW9 (s_ : Str) (n : Int) : Option (List Str) :=
  (ap9 s_).bind fun x1 => if ((decide (n < 0)) || (decide (x1 < n))) then aA2 s_ x1 else aA2 s_ n
def strings_Count (a0 : Str) (a1 : Str) : Option Int := b78 a0 a1
def strings_Index (a0 : Str) (a1 : Str) : Option Int := b77 a0 a1
def aq6 (p8 : Str) (p9 : Int) (p10 : (List Str)) : Option (List Str) :=
  (aa9 p10 p9).bind fun x11 => (cut (List.set p10 (Int.toNat p9) p8) 0 (IntKind.wrap .i64 (p9 + 1))).bind fun x12 => some x12
def ak0 (s_ : Str) (sep : Str) (sepSave : Int) (p5 : Int) (s__2 : Str) (i_1 : Int) (a_1 : (List Str)) : Option (Step (Str × Int × (List Str)) (List Str)) :=
  if (decide (i_1 < (IntKind.wrap .i64 ((min p5 (IntKind.wrap .i64 ((List.length s_ : Int) + 1))) - 1)))) then (strings_Index s__2 sep).bind fun x24 => if (decide (x24 < 0)) then (aq6 s__2 i_1 a_1).map .done else (cut s__2 0 (IntKind.wrap .i64 (x24 + sepSave))).bind fun x26 => (aa9 a_1 i_1).bind fun x27 => (cut s__2 (IntKind.wrap .i64 (x24 + (List.length sep : Int))) (List.length s__2 : Int)).bind fun x28 => some (.cont (x28,(IntKind.wrap .i64 (i_1 + 1)),(List.set a_1 (Int.toNat i_1) x26))) else (aq6 s__2 i_1 a_1).map .done
def aq7 (s_ : Str) (sep : Str) (sepSave : Int) (p5 : Int) : Option (List Str) :=
  (mkC 16 ([] : Str) (min p5 (IntKind.wrap .i64 ((List.length s_ : Int) + 1))) (min p5 (IntKind.wrap .i64 ((List.length s_ : Int) + 1)))).bind fun x6 => ab0 (fun s => ak0 s_ sep sepSave p5 s.1 s.2.1 s.2.2) (s_,0,x6)
def ay6 (s_ : Str) (sep : Str) (sepSave : Int) (n : Int) : Option (List Str) :=
  if (decide (n = 0)) then some ([] : List Str) else if (decide (sep = [])) then (aW9 s_ n).bind fun x3 => some x3 else if (decide (n < 0)) then (strings_Count s_ sep).bind fun x30 => aq7 s_ sep sepSave (IntKind.wrap .i64 (x30 + 1)) else aq7 s_ sep sepSave n
def aH6 (s_ : Str) (sep : Str) : Option (List Str) :=
  (ay6 s_ sep 0 (-1)).bind fun x1 => some x1
def stringslite_IndexByte (a0 : Str) (a1 : Int) : Option Int := aO7 a0 a1
def strings_IndexByte (s_ : Str) (c : Int) : Option Int :=
  (stringslite_IndexByte s_ c).bind fun x1 => some x1
def aA3 (s_ : Str) (more : Str) (v18 : Int) : Option (Step Int Bool) :=
  if (decide (v18 < (List.length s_ : Int))) then (ai6 s_ v18).bind fun c21 => (if (decide ((c21.toNat : Int) < 97)) then if (decide ((c21.toNat : Int) < 48)) then (strings_IndexByte more (c21.toNat : Int)).bind fun x24 => some (decide (x24 < 0)) else if (decide (57 < (c21.toNat : Int))) then (strings_IndexByte more (c21.toNat : Int)).bind fun x26 => some (decide (x26 < 0)) else some false else if (decide (122 < (c21.toNat : Int))) then if (decide ((c21.toNat : Int) < 48)) then (strings_IndexByte more (c21.toNat : Int)).bind fun x29 => some (decide (x29 < 0)) else if (decide (57 < (c21.toNat : Int))) then (strings_IndexByte more (c21.toNat : Int)).bind fun x31 => some (decide (x31 < 0)) else some false else some false).bind fun t32 => if t32 then some (.done false) else some (.cont (IntKind.wrap .i64 (v18 + 1))) else some (.done true)
def aO9 (s_ : Str) (most : Int) (more : Str) : Option Bool :=
  if ((decide (s_ = [])) || (decide (most < (List.length s_ : Int)))) then some false else ab0 (fun s => aA3 s_ more s) 0
def aP0 (s_ : Str) : Option Bool :=
  (aO9 s_ 32 [45,95]).bind fun x1 => (if x1 then (ai6 s_ 0).bind fun c3 => if (decide (97 ≤ (c3.toNat : Int))) then (ai6 s_ 0).bind fun c5 => some (decide ((c5.toNat : Int) ≤ 122)) else some false else some false).bind fun t6 => some t6
def aC7 (s_ : Str) : Option Bool :=
  (aO9 s_ 64 [45,95,46]).bind fun x1 => some x1
def aI6 (a : aa2) : Option Bool :=
  (if (decide (a.Service = [])) then some true else (aO9 a.Service 32 [45,95]).bind fun x2 => some x2).bind fun t3 => (aP0 a.Net).bind fun x4 => (if x4 then if (decide (a.Host = [42])) then some t3 else (aC7 a.Host).bind fun x7 => if x7 then some t3 else some false else some false).bind fun t9 => some t9
def aA4 (x1 : (List Str)) (x5 : Str) (x6 : Str) (p8 : Str) : Option (aa2 × Int) :=
  (aI6 (aa2.mk x5 x6 p8)).bind fun x9 => if ((!x9) || ((decide ((List.length x1 : Int) = 3)) && (decide (p8 = [])))) then some ((aa2.mk [] [] []),36) else some ((aa2.mk x5 x6 p8),0)
def aI7 (s_ : Str) : Option (aa2 × Int) :=
  (aH6 s_ [33]).bind fun x1 => if ((decide ((List.length x1 : Int) < 2)) || (decide (3 < (List.length x1 : Int)))) then some ((aa2.mk [] [] []),36) else (aa9 x1 0).bind fun x5 => (aa9 x1 1).bind fun x6 => if (decide ((List.length x1 : Int) = 3)) then (aa9 x1 2).bind fun x15 => aA4 x1 x5 x6 x15 else aA4 x1 x5 x6 []
def aX0 (a : aa4) (a1 : Str) : Option Bool :=
  some ((!a.Query) && (decide (a.Name = a1)))
def ac9 (s_ : (List aa4)) (f : Str) (v5 : Int) : Option (Step Int Int) :=
  if (decide (v5 < (List.length s_ : Int))) then (aa9 s_ v5).bind fun x8 => (aX0 x8 f).bind fun x9 => if x9 then some (.done v5) else some (.cont (IntKind.wrap .i64 (v5 + 1))) else some (.done (-1))
def ag6 (s_ : (List aa4)) (f : Str) : Option Int :=
  ab0 (fun s => ac9 s_ f s) 0
def a02 (l : (List aa4)) (name : Str) : Option Int :=
  (ag6 l name).bind fun x1 => some x1
def aX1 (l : (List aa4)) (name : Str) : Option (Str × Bool) :=
  (a02 l name).bind fun x1 => if (decide (x1 < 0)) then some ([],false) else (aa9 l x1).bind fun x3 => some (x3.Value,true)
def ah0 (s_ : (List Str)) (v : Str) (v4 : Int) : Option (Step Int Int) :=
  if (decide (v4 < (List.length s_ : Int))) then (aa9 s_ v4).bind fun x7 => if (decide (v = x7)) then some (.done v4) else some (.cont (IntKind.wrap .i64 (v4 + 1))) else some (.done (-1))
def ai3 (s_ : (List Str)) (v : Str) : Option Int :=
  ab0 (fun s => ah0 s_ v s) 0
def af6 (s_ : (List Str)) (v : Str) : Option Bool :=
  (ai3 s_ v).bind fun x1 => some (decide (0 ≤ x1))
def a54 (l : (List Str)) (s_ : Str) : Option (List Str) :=
  (af6 l s_).bind fun x1 => if x1 then some l else (ar7 16 l [s_]).bind fun x3 => some x3
def ax4 (l : (List aa3)) (name : Str) (v6 : Int) (out : (List Str)) : Option (Step (Int × (List Str)) (List Str)) :=
  if (decide (v6 < (List.length l : Int))) then (aa9 l v6).bind fun x10 => (aX1 x10.Attrs name).bind fun x11 => if x11.2 then (a54 out x11.1).bind fun x13 => some (.cont ((IntKind.wrap .i64 (v6 + 1)),x13)) else some (.cont ((IntKind.wrap .i64 (v6 + 1)),out)) else some (.done out)
def au0 (l : (List aa3)) (name : Str) : Option (List Str) :=
  ab0 (fun s => ax4 l name s.1 s.2) (0,([] : List Str))
def av9 (name : Str) (x1 : (List Str)) (v11 : Int) (out : (List Str)) : Option (Step (Int × (List Str)) (List Str)) :=
  if (decide (v11 < (List.length x1 : Int))) then (aa9 x1 v11).bind fun x15 => (aP0 x15).bind fun x16 => if (x16 && ((!decide (x15 = [110,101,116])) && ((decide (name = [110,101,116])) || (decide (name = x15))))) then (ar7 16 out [x15]).bind fun x22 => some (.cont ((IntKind.wrap .i64 (v11 + 1)),x22)) else some (.cont ((IntKind.wrap .i64 (v11 + 1)),out)) else some (.done out)
def aH7 (l : (List aa3)) (name : Str) : Option (List Str) :=
  (au0 l [110,101,116]).bind fun x1 => ab0 (fun s => av9 name x1 s.1 s.2) (0,([] : List Str))
def aN6 (want : Str) (hits : (List aa3)) : Option (List Str) :=
  (au0 hits want).bind fun x18 => some x18
def ax5 (l : (List aa3)) (name : Str) (value : Str) (want : Str) (v8 : Int) (hits : (List aa3)) : Option (Step (Int × (List aa3)) (List Str)) :=
  if (decide (v8 < (List.length l : Int))) then (aa9 l v8).bind fun x12 => (aX1 x12.Attrs name).bind fun x13 => if (x13.2 && (decide (x13.1 = value))) then (ar7 24 hits [x12]).bind fun x17 => some (.cont ((IntKind.wrap .i64 (v8 + 1)),x17)) else some (.cont ((IntKind.wrap .i64 (v8 + 1)),hits)) else (aN6 want hits).map .done
def aw0 (l : (List aa3)) (name : Str) (value : Str) (want : Str) : Option (List Str) :=
  ab0 (fun s => ax5 l name value want s.1 s.2) (0,([] : List aa3))
def aF3 (s_ : Str) : Option Bool :=
  (aC7 s_).bind fun x1 => some (!x1)
def ae4 (s_ : (List Str)) (v5 : Int) : Option (Step Int Int) :=
  if (decide (v5 < (List.length s_ : Int))) then (aa9 s_ v5).bind fun x8 => (aF3 x8).bind fun x9 => if x9 then some (.done v5) else some (.cont (IntKind.wrap .i64 (v5 + 1))) else some (.done (-1))
def af0 (s_ : (List Str)) : Option Int :=
  ab0 (fun s => ae4 s_ s) 0
def af7 (i : Int) (s__1 : (List Str)) : Option (List Str) :=
  (cut s__1 0 i).bind fun x17 => some x17
def ab2 (i : Int) (j : Int) (s__1 : (List Str)) : Option (Step (Int × Int × (List Str)) (List Str)) :=
  if (decide (j < (List.length s__1 : Int))) then (aa9 s__1 j).bind fun x13 => (aF3 x13).bind fun x14 => if (!x14) then (aa9 s__1 i).bind fun x16 => some (.cont ((IntKind.wrap .i64 (i + 1)),(IntKind.wrap .i64 (j + 1)),(List.set s__1 (Int.toNat i) x13))) else some (.cont (i,(IntKind.wrap .i64 (j + 1)),s__1)) else (af7 i s__1).map .done
def ae5 (s_ : (List Str)) : Option (List Str) :=
  (af0 s_).bind fun x1 => if (decide (x1 = (-1))) then some s_ else ab0 (fun s => ab2 s.1 s.2.1 s.2.2) (x1,(IntKind.wrap .i64 (x1 + 1)),s_)
def a03 (l : (List aa3)) (host : Str) (name : Str) : Option (List Str) :=
  if (decide (name = [42])) then some [name] else (if (decide (name = [115,101,108,102])) then (aC7 host).bind fun x3 => some x3 else some false).bind fun t4 => if t4 then some [host] else if (decide (name = [115,101,108,102])) then some ([] : List Str) else (au0 l [104,111,115,116]).bind fun x7 => (af6 x7 name).bind fun x8 => if x8 then some [name] else (aw0 l [97,108,105,97,115] name [104,111,115,116]).bind fun x10 => (ae5 x10).bind fun x11 => some x11
def aJ8 (c : Int) : Option Int :=
  if ((decide (48 ≤ c)) && (decide (c ≤ 57))) then some (IntKind.wrap .i64 (IntKind.wrap .u8 (c - 48))) else if ((decide (97 ≤ c)) && (decide (c ≤ 102))) then some (IntKind.wrap .i64 ((IntKind.wrap .i64 (IntKind.wrap .u8 (c - 97))) + 10)) else some 16
def aw1 (s_ : Str) (base : Int) (most : Int) (n : Int) (v19 : Int) : Option (Step (Int × Int) (Int × Int)) :=
  if (decide (v19 < (List.length s_ : Int))) then (ai6 s_ v19).bind fun c22 => (aJ8 (c22.toNat : Int)).bind fun x23 => (if (decide (base ≤ x23)) then some true else (ce5 .i64 (IntKind.wrap .i64 (most - x23)) base).bind fun x25 => if (decide (x25 < n)) then some true else some (decide (most < x23))).bind fun t27 => if t27 then some (.done (0,5)) else some (.cont ((IntKind.wrap .i64 ((IntKind.wrap .i64 (n * base)) + x23)),(IntKind.wrap .i64 (v19 + 1)))) else some (.done (n,0))
def a94 (s_ : Str) (base : Int) (most : Int) : Option (Int × Int) :=
  (aW8 base).bind fun x1 => if ((!x1) || (decide (most < 0))) then some (0,1) else (if (decide (s_ = [])) then some true else if (decide (1 < (List.length s_ : Int))) then (ai6 s_ 0).bind fun c7 => some (decide ((c7.toNat : Int) = 48)) else some false).bind fun t8 => if t8 then some (0,5) else ab0 (fun s => aw1 s_ base most s.1 s.2) (0,0)
def aJ9 (s_ : Str) : Option Bool :=
  (a94 s_ 10 65535).bind fun x1 => some ((decide (x1.2 = 0)) && (decide (0 < x1.1)))
def aw2 (x5 : (List Str)) (v10 : Int) : Option (Step Int Str) :=
  if (decide (v10 < (List.length x5 : Int))) then (aa9 x5 v10).bind fun x13 => (aJ9 x13).bind fun x14 => if x14 then some (.done x13) else some (.cont (IntKind.wrap .i64 (v10 + 1))) else some (.done [])
def aF4 (l : (List aa3)) (network : Str) (p2 : Str) : Option Str :=
  (aJ9 p2).bind fun x3 => if x3 then some p2 else (aw0 l [115,101,114,118,105,99,101] p2 network).bind fun x5 => ab0 (fun s => aw2 x5 s) 0
def a95 (l : (List aa3)) (network : Str) (service : Str) : Option Str :=
  if (decide (service = [])) then (aw0 l [110,101,116] network [115,101,114,118,105,99,101]).bind fun x17 => if (decide ((List.length x17 : Int) = 0)) then some [] else (aa9 x17 0).bind fun x19 => aF4 l network x19 else aF4 l network service
def al8 (x5 : (List Str)) (v20 : Int) (x24 : Str) (x25 : Str) (v30 : Int) (out_1 : (List aa2)) : Option (Step (Int × (List aa2)) (Step (Int × (List aa2)) ((List aa2) × Int))) :=
  if (decide (v30 < (List.length x5 : Int))) then (aa9 x5 v30).bind fun x34 => (ar7 48 out_1 [(aa2.mk x24 x34 x25)]).bind fun x35 => some (.cont ((IntKind.wrap .i64 (v30 + 1)),x35)) else some (.done (.cont ((IntKind.wrap .i64 (v20 + 1)),out_1)))
def aA5 (out : (List aa2)) : Option ((List aa2) × Int) :=
  if (decide ((List.length out : Int) = 0)) then some (([] : List aa2),39) else some (out,0)
def al9 (l : (List aa3)) (a : aa2) (x3 : (List Str)) (x5 : (List Str)) (v20 : Int) (out : (List aa2)) : Option (Step (Int × (List aa2)) ((List aa2) × Int)) :=
  if (decide (v20 < (List.length x3 : Int))) then (aa9 x3 v20).bind fun x24 => (a95 l x24 a.Service).bind fun x25 => if (decide (x25 = [])) then some (.cont ((IntKind.wrap .i64 (v20 + 1)),out)) else ab0 (fun s => al8 x5 v20 x24 x25 s.1 s.2) (0,out) else (aA5 out).map .done
def as2 (l : (List aa3)) (host : Str) (a : aa2) : Option ((List aa2) × Int) :=
  (aI6 a).bind fun x1 => if (!x1) then some (([] : List aa2),36) else (aH7 l a.Net).bind fun x3 => if (decide ((List.length x3 : Int) = 0)) then some (([] : List aa2),37) else (a03 l host a.Host).bind fun x5 => if (decide ((List.length x5 : Int) = 0)) then some (([] : List aa2),38) else ab0 (fun s => al9 l a x3 x5 s.1 s.2) (0,([] : List aa2))
def aG2 (x_ : aa0) (a1 : aa0) : Option Bool :=
  some (!decide (x_.Id = a1.Id))
def am0 (t_ : aa0) (a1 : Str) (a2 : aa2) (a3 : aa0) : Option Bool :=
  (if (decide (t_.Host = a1)) then if (decide (t_.State = 2)) then if (decide (t_.Local.Net = a2.Net)) then if (decide (t_.Local.Service = a2.Service)) then (aG2 t_ a3).bind fun x5 => some x5 else some false else some false else some false else some false).bind fun t6 => some t6
def ab9 (s_ : (List aa0)) (f : Str) (f' : aa2) (f'' : aa0) (v5 : Int) : Option (Step Int Int) :=
  if (decide (v5 < (List.length s_ : Int))) then (aa9 s_ v5).bind fun x8 => (am0 x8 f f' f'').bind fun x9 => if x9 then some (.done v5) else some (.cont (IntKind.wrap .i64 (v5 + 1))) else some (.done (-1))
def af1 (s_ : (List aa0)) (f : Str) (f' : aa2) (f'' : aa0) : Option Int :=
  ab0 (fun s => ab9 s_ f f' f'' s) 0
def al0 (n : aa1) (host : Str) (a : aa2) (ok : aa0) : Option Int :=
  (af1 n.Talks host a ok).bind fun x1 => some x1
def aC8 (n : aa1) (i : Int) (x1 : aa0) (p6 : aa2) : Option (aa1 × Int) :=
  (as2 n.Db x1.Host p6).bind fun x7 => if (!decide (x7.2 = 0)) then some (n,x7.2) else (if (decide ((List.length x7.1 : Int) = 0)) then some true else (aa9 x7.1 0).bind fun x10 => some (!decide (x10.Host = x1.Host))).bind fun t11 => if t11 then some (n,38) else (aa9 x7.1 0).bind fun x13 => (al0 n x1.Host x13 x1).bind fun x14 => if (decide (0 ≤ x14)) then some (n,41) else (aa9 n.Talks i).bind fun x16 => none
def bq6 (n : aa1) (i : Int) (address : Str) : Option (aa1 × Int) :=
  (aa9 n.Talks i).bind fun x1 => if (!decide (x1.State = 1)) then some (n,43) else (aI7 address).bind fun x3 => if (!decide (x3.2 = 0)) then some (n,x3.2) else if (decide (x3.1.Host = [42])) then aC8 n i x1 {x3.1 with Host := [115,101,108,102]} else aC8 n i x1 x3.1
def ai7 (n : aa1) (i : Int) (x1 : aa0) (p6 : aa2) : Option (aa1 × Int) :=
  (as2 n.Db x1.Host p6).bind fun x7 => if (!decide (x7.2 = 0)) then some (n,x7.2) else (if (decide ((List.length x7.1 : Int) = 0)) then some true else (aa9 x7.1 0).bind fun x10 => some (!decide (x10.Host = x1.Host))).bind fun t11 => if t11 then some (n,38) else (aa9 x7.1 0).bind fun x13 => (al0 n x1.Host x13 x1).bind fun x14 => if (decide (0 ≤ x14)) then some (n,41) else (aa9 n.Talks i).bind fun x16 => (aa9 x7.1 0).bind fun x17 => (aa9 (List.set n.Talks (Int.toNat i) {x16 with State := 2}) i).bind fun x18 => some ({n with Talks := List.set (List.set n.Talks (Int.toNat i) {x16 with State := 2}) (Int.toNat i) {x18 with Local := x17}},0)
def ay7 (n : aa1) (i : Int) (address : Str) : Option (aa1 × Int) :=
  (aa9 n.Talks i).bind fun x1 => if (!decide (x1.State = 1)) then some (n,43) else (aI7 address).bind fun x3 => if (!decide (x3.2 = 0)) then some (n,x3.2) else if (decide (x3.1.Host = [42])) then ai7 n i x1 {x3.1 with Host := [115,101,108,102]} else ai7 n i x1 x3.1
def aK0 (x_ : aa0) : Option Bool :=
  some (decide ((List.length x_.Backlog : Int) < 8))
def am1 (t_ : aa0) (a1 : Str) (a2 : aa2) : Option Bool :=
  (if (decide (t_.Host = a1)) then if (decide (t_.State = 2)) then if (decide (t_.Local.Net = a2.Net)) then if (decide (t_.Local.Service = a2.Service)) then (aK0 t_).bind fun x5 => some x5 else some false else some false else some false else some false).bind fun t6 => some t6
def ac0 (s_ : (List aa0)) (f : Str) (f' : aa2) (v5 : Int) : Option (Step Int Int) :=
  if (decide (v5 < (List.length s_ : Int))) then (aa9 s_ v5).bind fun x8 => (am1 x8 f f').bind fun x9 => if x9 then some (.done v5) else some (.cont (IntKind.wrap .i64 (v5 + 1))) else some (.done (-1))
def af2 (s_ : (List aa0)) (f : Str) (f' : aa2) : Option Int :=
  ab0 (fun s => ac0 s_ f f' s) 0
def aq8 (n : aa1) (host : Str) (a : aa2) : Option Int :=
  (af2 n.Talks host a).bind fun x1 => some x1
def ai5 (n : aa1) (i : Int) (x1 : aa0) (x5 : ((List aa2) × Int)) (v21 : Int) : Option (Step Int (aa1 × Int)) :=
  if (decide (v21 < (List.length x5.1 : Int))) then (aa9 x5.1 v21).bind fun x24 => (aq8 n x24.Host x24).bind fun x25 => if (decide (x25 < 0)) then some (.cont (IntKind.wrap .i64 (v21 + 1))) else (aa9 n.Talks x25).bind fun x27 => (aa9 n.Talks x25).bind fun x28 => (ar7 8 x28.Backlog [n.Next]).bind fun x29 => (aa9 n.Talks x25).bind fun x30 => (a01 (IntKind.wrap .i64 (32768 + x1.Id)) 10).bind fun x31 => (aa9 (List.set n.Talks (Int.toNat x25) {x30 with Backlog := x29}) i).bind fun x32 => (ar7 200 (List.set (List.set n.Talks (Int.toNat x25) {x30 with Backlog := x29}) (Int.toNat i) {x1 with State := 3,Local := aa2.mk x24.Net x1.Host x31,Remote := x24,Peer := n.Next}) [(aa0.mk n.Next x27.Host x27.Owner 3 x27.Local (aa2.mk x24.Net x1.Host x31) x1.Id [] ([] : List Int) 0)]).bind fun x33 => some (.done ((aa1.mk n.Db (IntKind.wrap .i64 (n.Next + 1)) x33),0)) else some (.done (n,40))
def as8 (n : aa1) (i : Int) (address : Str) : Option (aa1 × Int) :=
  (aa9 n.Talks i).bind fun x1 => if (!decide (x1.State = 1)) then some (n,43) else (aI7 address).bind fun x3 => if (!decide (x3.2 = 0)) then some (n,x3.2) else (as2 n.Db x1.Host x3.1).bind fun x5 => if (!decide (x5.2 = 0)) then some (n,x5.2) else if ((decide (64 ≤ (List.length n.Talks : Int))) || (decide (1048575 < n.Next))) then some (n,22) else ab0 (fun s => ai5 n i x1 x5 s) 0
def ac4 (s : (List aa0)) (i j : Int) : Option (List aa0) := delL s i j
def am2 (n : aa1) (x1 : Int) (p5 : (List aa0)) : Option aa1 :=
  (aa9 p5 x1).bind fun x6 => (aa9 (List.set p5 (Int.toNat x1) {x6 with State := 4}) x1).bind fun x7 => some {n with Talks := List.set (List.set p5 (Int.toNat x1) {x6 with State := 4}) (Int.toNat x1) {x7 with Peer := 0}}
def aK1 (n : aa1) (x1 : Int) (x2 : aa0) (x13 : aa0) : Option (Step Unit aa1) :=
  if (decide ((0 : Int) < (List.length x2.Backlog : Int))) then (aa9 x2.Backlog 0).bind fun x16 => none else some (.done {n with Talks := (List.set (List.set n.Talks (Int.toNat x1) {x2 with Backlog := ([] : List Int)}) (Int.toNat x1) {x13 with State := 4})})
def aA6 (n : aa1) (id : Int) : Option aa1 :=
  (ag5 n id).bind fun x1 => (aa9 n.Talks x1).bind fun x2 => if (decide (x2.State = 3)) then (ag5 n x2.Peer).bind fun x8 => if (decide (0 ≤ x8)) then (aa9 n.Talks x8).bind fun x10 => (aa9 (List.set n.Talks (Int.toNat x8) {x10 with State := 4}) x8).bind fun x11 => am2 n x1 (List.set (List.set n.Talks (Int.toNat x8) {x10 with State := 4}) (Int.toNat x8) {x11 with Peer := 0}) else am2 n x1 n.Talks else if (decide (x2.State = 2)) then (aa9 (List.set n.Talks (Int.toNat x1) {x2 with Backlog := ([] : List Int)}) x1).bind fun x13 => ab0 (fun (_ : Unit) => aK1 n x1 x2 x13) () else some n
def au1 (n : aa1) (id : Int) : Option aa1 :=
  (ag5 n id).bind fun x1 => if (decide (x1 < 0)) then some n else (aA6 n id).bind fun x3 => (ag5 x3 id).bind fun x4 => (ac4 x3.Talks x4 (IntKind.wrap .i64 (x4 + 1))).bind fun x5 => some {x3 with Talks := x5}
def as9 (n : aa1) (x1 : Int) (p5 : (List aa0)) : Option aa1 :=
  (aa9 p5 x1).bind fun x6 => (aa9 (List.set p5 (Int.toNat x1) {x6 with State := 4}) x1).bind fun x7 => some {n with Talks := List.set (List.set p5 (Int.toNat x1) {x6 with State := 4}) (Int.toNat x1) {x7 with Peer := 0}}
def aq9 (x2 : aa0) (v17 : Int) (v18 : (List aa3)) (v19 : Int) (v20 : (List aa0)) : Option (Step (Int × (List aa3) × Int × (List aa0)) aa1) :=
  if (decide (v17 < (List.length x2.Backlog : Int))) then (aa9 x2.Backlog v17).bind fun x23 => (au1 (aa1.mk v18 v19 v20) x23).bind fun x24 => some (.cont ((IntKind.wrap .i64 (v17 + 1)),x24.Db,x24.Next,x24.Talks)) else some (.done (aa1.mk v18 v19 v20))
def au2 (n : aa1) (id : Int) : Option aa1 :=
  (ag5 n id).bind fun x1 => (aa9 n.Talks x1).bind fun x2 => if (decide (x2.State = 3)) then (ag5 n x2.Peer).bind fun x8 => if (decide (0 ≤ x8)) then (aa9 n.Talks x8).bind fun x10 => (aa9 (List.set n.Talks (Int.toNat x8) {x10 with State := 4}) x8).bind fun x11 => as9 n x1 (List.set (List.set n.Talks (Int.toNat x8) {x10 with State := 4}) (Int.toNat x8) {x11 with Peer := 0}) else as9 n x1 n.Talks else if (decide (x2.State = 2)) then (aa9 (List.set n.Talks (Int.toNat x1) {x2 with Backlog := ([] : List Int)}) x1).bind fun x13 => ab0 (fun s => aq9 x2 s.1 s.2.1 s.2.2.1 s.2.2.2) (0,n.Db,n.Next,(List.set (List.set n.Talks (Int.toNat x1) {x2 with Backlog := ([] : List Int)}) (Int.toNat x1) {x13 with State := 4})) else some n
def ae8 (n : aa1) (p13 : Int) (p14 : (List aa3)) (p15 : Int) (p16 : (List aa0)) : Option (aa1 × Int) :=
  if (!decide (p13 = 0)) then (ah1 n).bind fun x18 => some (x18,p13) else some ((aa1.mk p14 p15 p16),0)
def ag2 (n : aa1) (host : Str) (user : Str) (id : Int) (line : Str) : Option (aa1 × Int) :=
  (ag5 n id).bind fun x1 => (if (decide (x1 < 0)) then some true else (aa9 n.Talks x1).bind fun x3 => some (!decide (x3.Host = host))).bind fun t4 => if t4 then (ah1 n).bind fun x6 => some (x6,8) else (aa9 n.Talks x1).bind fun x7 => if (!decide (x7.Owner = user)) then (ah1 n).bind fun x9 => some (x9,11) else (ah1 n).bind fun x10 => (aI5 line).bind fun x11 => (if (decide ((List.length x11 : Int) = 2)) then (aa9 x11 0).bind fun x20 => some (decide (x20 = [97,110,110,111,117,110,99,101])) else some false).bind fun t21 => if t21 then (aa9 x11 1).bind fun x23 => (ay7 x10 x1 x23).bind fun x24 => ae8 n x24.2 x24.1.Db x24.1.Next x24.1.Talks else (if (decide ((List.length x11 : Int) = 2)) then (aa9 x11 0).bind fun x26 => some (decide (x26 = [99,111,110,110,101,99,116])) else some false).bind fun t27 => if t27 then (aa9 x11 1).bind fun x29 => (as8 x10 x1 x29).bind fun x30 => ae8 n x30.2 x30.1.Db x30.1.Next x30.1.Talks else (if (decide ((List.length x11 : Int) = 1)) then (aa9 x11 0).bind fun x32 => some (decide (x32 = [104,97,110,103,117,112])) else some false).bind fun t33 => if t33 then (aa9 n.Talks x1).bind fun x35 => if ((decide (x35.State = 3)) || (decide (x35.State = 2))) then (au2 x10 id).bind fun x39 => ae8 n 0 x39.Db x39.Next x39.Talks else ae8 n 43 x10.Db x10.Next x10.Talks else ae8 n 54 x10.Db x10.Next x10.Talks
def ag7 (n : aa1) (host : Str) (user : Str) (id : Int) (s_ : Str) : Option (aa1 × Int × Bool × Int) :=
  (ah1 n).bind fun x1 => (ab7 n host id).bind fun x2 => if (!x2.2) then some (x1,0,false,8) else (ab5 x2.1).bind fun x4 => if x4 then some (x1,0,false,10) else if ((decide (x2.1.at_ < 0)) || ((!decide (x2.1.part = 1)) && (!decide (x2.1.part = 2)))) then some (x1,0,false,11) else if (decide (x2.1.part = 1)) then (ag2 n host user (IntKind.wrap .i64 (Int.tdiv id 16)) s_).bind fun x11 => if (!decide (x11.2 = 0)) then some (x11.1,0,false,x11.2) else some (x11.1,(List.length s_ : Int),false,0) else (aa9 n.Talks x2.1.at_).bind fun x13 => if (decide (x13.State ≤ 2)) then some (x1,0,false,43) else if (decide (x13.State = 4)) then some (x1,0,false,30) else if (decide (8192 < (List.length s_ : Int))) then some (x1,0,false,4) else (ag5 x1 x13.Peer).bind fun x17 => (if (decide (x17 < 0)) then some true else (aa9 x1.Talks x17).bind fun x19 => some (decide (8192 < (IntKind.wrap .i64 ((List.length x19.Data : Int) + (List.length s_ : Int)))))).bind fun t20 => if t20 then some (x1,0,true,0) else (aa9 x1.Talks x17).bind fun x22 => (ax3 x22.Data s_).bind fun x23 => (aa9 x1.Talks x17).bind fun x24 => some ({x1 with Talks := List.set x1.Talks (Int.toNat x17) {x24 with Data := x23}},(List.length s_ : Int),false,0)
def aP1 (a : aa2) : Option (Str × Int) :=
  (aI6 a).bind fun x1 => if (!x1) then some ([],36) else (ax3 a.Net [33]).bind fun x3 => (ax3 x3 a.Host).bind fun x4 => if (!decide (a.Service = [])) then (ax3 [33] a.Service).bind fun x6 => (ax3 x4 x6).bind fun x7 => some (x7,0) else some (x4,0)
def ax6 (n : aa1) (f : aa5) : Option Str :=
  if (decide (f.at_ < 0)) then some [] else (aa9 n.Talks f.at_).bind fun x2 => if (decide (f.part = 1)) then (a01 x2.Id 10).bind fun x4 => some x4 else if (decide (f.part = 4)) then (aa9 [[],[105,100,108,101],[97,110,110,111,117,110,99,101,100],[111,112,101,110],[104,117,110,103,117,112]] x2.State).bind fun x6 => some x6 else if (decide (f.part = 5)) then (aP1 x2.Local).bind fun x8 => some x8.1 else if (decide (f.part = 6)) then (aP1 x2.Remote).bind fun x10 => some x10.1 else some []
def ah2 (n : aa1) (host : Str) (id : Int) (offset : Int) (count : Int) : Option (aa1 × Str × Bool × Int) :=
  (ah1 n).bind fun x1 => (ab7 n host id).bind fun x2 => if (!x2.2) then some (x1,[],false,8) else (ab5 x2.1).bind fun x4 => if x4 then some (x1,[],false,10) else if ((decide (offset < 0)) || (decide (count < 0))) then some (x1,[],false,1) else if ((decide (x2.1.at_ < 0)) || (!decide (x2.1.part = 2))) then (ax6 n x2.1).bind fun x12 => (cut x12 (min offset (List.length x12 : Int)) (IntKind.wrap .i64 ((min offset (List.length x12 : Int)) + (min (min count 65536) (IntKind.wrap .i64 ((List.length x12 : Int) - (min offset (List.length x12 : Int)))))))).bind fun x13 => some (x1,x13,false,0) else (aa9 x1.Talks x2.1.at_).bind fun x14 => if (decide (x14.State ≤ 2)) then some (x1,[],false,43) else if (decide (x14.Data = [])) then some (x1,[],(decide (x14.State = 3)),0) else (cut x14.Data 0 (min (min count 65536) (List.length x14.Data : Int))).bind fun x17 => (cut x14.Data (min (min count 65536) (List.length x14.Data : Int)) (List.length x14.Data : Int)).bind fun x18 => some ({x1 with Talks := List.set x1.Talks (Int.toNat x2.1.at_) {x14 with Data := x18}},x17,false,0)
def a55 (a : aa4) : Option Bool :=
  some a.Query
def ad0 (s_ : (List aa4)) (v5 : Int) : Option (Step Int Int) :=
  if (decide (v5 < (List.length s_ : Int))) then (aa9 s_ v5).bind fun x8 => (a55 x8).bind fun x9 => if x9 then some (.done v5) else some (.cont (IntKind.wrap .i64 (v5 + 1))) else some (.done (-1))
def ae0 (s_ : (List aa4)) : Option Int :=
  ab0 (fun s => ad0 s_ s) 0
def af8 (s_ : (List aa4)) : Option Bool :=
  (ae0 s_).bind fun x1 => some (decide (0 ≤ x1))
def a96 (l : (List aa4)) : Option Bool :=
  (af8 l).bind fun x1 => some x1
def stringslite_HasPrefix (s_ : Str) (prefix_ : Str) : Option Bool :=
  (if (decide ((List.length prefix_ : Int) ≤ (List.length s_ : Int))) then (cut s_ 0 (List.length prefix_ : Int)).bind fun x2 => some (decide (x2 = prefix_)) else some false).bind fun t3 => some t3
def stringslite_TrimPrefix (s_ : Str) (prefix_ : Str) : Option Str :=
  (stringslite_HasPrefix s_ prefix_).bind fun x1 => if x1 then (cut s_ (List.length prefix_ : Int) (List.length s_ : Int)).bind fun x3 => some x3 else some s_
def strings_TrimPrefix (s_ : Str) (prefix_ : Str) : Option Str :=
  (stringslite_TrimPrefix s_ prefix_).bind fun x1 => some x1
def ao6 (x1 : Str) (v23 : Int) : Option (Step Int Bool) :=
  if (decide (v23 < (List.length x1 : Int))) then (ai6 x1 v23).bind fun c26 => if (bif (decide ((c26.toNat : Int) < 97)) then (bif (decide ((c26.toNat : Int) < 48)) then ((!decide ((c26.toNat : Int) = 45)) && (!decide ((c26.toNat : Int) = 95))) else ((decide (57 < (c26.toNat : Int))) && ((!decide ((c26.toNat : Int) = 45)) && (!decide ((c26.toNat : Int) = 95))))) else ((decide (122 < (c26.toNat : Int))) && (bif (decide ((c26.toNat : Int) < 48)) then ((!decide ((c26.toNat : Int) = 45)) && (!decide ((c26.toNat : Int) = 95))) else ((decide (57 < (c26.toNat : Int))) && ((!decide ((c26.toNat : Int) = 45)) && (!decide ((c26.toNat : Int) = 95))))))) then some (.done false) else some (.cont (IntKind.wrap .i64 (v23 + 1))) else some (.done true)
def aS0 (s_ : Str) : Option Bool :=
  (strings_TrimPrefix s_ [33]).bind fun x1 => (if (decide (x1 = [])) then some true else if (decide (32 < (List.length x1 : Int))) then some true else (ai6 x1 0).bind fun c4 => if (decide ((c4.toNat : Int) < 97)) then some true else (ai6 x1 0).bind fun c6 => some (decide (122 < (c6.toNat : Int)))).bind fun t7 => if t7 then some false else ab0 (fun s => ao6 x1 s) 0
def aA7 (s_ : Str) (stops : Str) (v5 : Int) : Option (Step Int Int) :=
  if (decide (v5 < (List.length s_ : Int))) then (ai6 s_ v5).bind fun c8 => (strings_IndexByte stops (c8.toNat : Int)).bind fun x9 => if (decide (0 ≤ x9)) then some (.done v5) else some (.cont (IntKind.wrap .i64 (v5 + 1))) else some (.done (List.length s_ : Int))
def aP2 (s_ : Str) (stops : Str) : Option Int :=
  ab0 (fun s => aA7 s_ stops s) 0
def aX2 (b : aa4) (a1 : aa4) : Option Bool :=
  some (decide (b.Name = a1.Name))
def ad1 (s_ : (List aa4)) (f : aa4) (v5 : Int) : Option (Step Int Int) :=
  if (decide (v5 < (List.length s_ : Int))) then (aa9 s_ v5).bind fun x8 => (aX2 x8 f).bind fun x9 => if x9 then some (.done v5) else some (.cont (IntKind.wrap .i64 (v5 + 1))) else some (.done (-1))
def ae1 (s_ : (List aa4)) (f : aa4) : Option Int :=
  ab0 (fun s => ad1 s_ f s) 0
def ad2 (s_ : (List aa4)) (f : aa4) : Option Bool :=
  (ae1 s_ f).bind fun x1 => some (decide (0 ≤ x1))
def a04 (before : (List aa4)) (a : aa4) : Option Int :=
  if (decide (32 ≤ (List.length before : Int))) then some 22 else (aS0 a.Name).bind fun x2 => if (!x2) then some 6 else if (a.Query && (!decide (a.Value = []))) then some 2 else (aP2 a.Value [0,10,13]).bind fun x7 => if (decide (x7 < (List.length a.Value : Int))) then some 2 else if (decide (1024 < (List.length a.Value : Int))) then some 4 else (ad2 before a).bind fun x10 => if x10 then some 7 else some 0
def aA8 (l : (List aa4)) (v6 : Int) : Option (Step Int Int) :=
  if (decide (v6 < (List.length l : Int))) then (aa9 l v6).bind fun x9 => (cut l 0 v6).bind fun x10 => (a04 x10 x9).bind fun x11 => if (!decide (x11 = 0)) then some (.done x11) else some (.cont (IntKind.wrap .i64 (v6 + 1))) else some (.done 0)
def a05 (l : (List aa4)) : Option Int :=
  ab0 (fun s => aA8 l s) 0
def strings_ReplaceAll (a0 : Str) (a1 : Str) (a2 : Str) : Option Str := aR7 a0 a1 a2
def a06 (s_ : Str) : Option Str :=
  (if (!decide (s_ = [])) then (aP2 s_ [32,9,39]).bind fun x2 => some (decide (x2 = (List.length s_ : Int))) else some false).bind fun t3 => if t3 then some s_ else (strings_ReplaceAll s_ [39] [39,39]).bind fun x5 => (ax3 [39] x5).bind fun x6 => (ax3 x6 [39]).bind fun x7 => some x7
def strings_Join (a0 : (List Str)) (a1 : Str) : Option Str := b79 a0 a1
def aN7 (words : (List Str)) : Option (Str × Int) :=
  (strings_Join words [32]).bind fun x25 => some (x25,0)
def ax7 (l : (List aa4)) (v13 : Int) (words : (List Str)) : Option (Step (Int × (List Str)) (Str × Int)) :=
  if (decide (v13 < (List.length l : Int))) then (aa9 l v13).bind fun x17 => if x17.Query then (ax3 x17.Name [63]).bind fun x19 => (ar7 16 words [x19]).bind fun x20 => some (.cont ((IntKind.wrap .i64 (v13 + 1)),x20)) else (ax3 x17.Name [61]).bind fun x21 => (a06 x17.Value).bind fun x22 => (ax3 x21 x22).bind fun x23 => (ar7 16 words [x23]).bind fun x24 => some (.cont ((IntKind.wrap .i64 (v13 + 1)),x24)) else (aN7 words).map .done
def a07 (l : (List aa4)) : Option (Str × Int) :=
  (a05 l).bind fun x1 => if (!decide (x1 = 0)) then some ([],x1) else (mkC 16 ([] : Str) 0 (List.length l : Int)).bind fun x3 => ab0 (fun s => ax7 l s.1 s.2) (0,x3)
def aA9 (l : (List aa3)) (v12 : Int) (v13 : Str) : Option (Step (Int × Str) (Str × Int)) :=
  if (decide (v12 < (List.length l : Int))) then (aa9 l v12).bind fun x16 => (if (decide ((List.length x16.Attrs : Int) = 0)) then some true else (a96 x16.Attrs).bind fun x18 => some x18).bind fun t19 => if t19 then some (.done ([],2)) else (a07 x16.Attrs).bind fun x21 => if (!decide (x21.2 = 0)) then some (.done ([],x21.2)) else (ax3 x21.1 [10]).bind fun x23 => (bAdd v13 x23).bind fun x24 => some (.cont ((IntKind.wrap .i64 (v12 + 1)),x24)) else some (.done (v13,0))
def aX3 (l : (List aa3)) : Option (Str × Int) :=
  if (decide (256 < (List.length l : Int))) then some ([],22) else ab0 (fun s => aA9 l s.1 s.2) (0,([] : Str))
def ak1 (s_ : (List Int)) (v : Int) (v4 : Int) : Option (Step Int Int) :=
  if (decide (v4 < (List.length s_ : Int))) then (aa9 s_ v4).bind fun x7 => if (decide (v = x7)) then some (.done v4) else some (.cont (IntKind.wrap .i64 (v4 + 1))) else some (.done (-1))
def an5 (s_ : (List Int)) (v : Int) : Option Int :=
  ab0 (fun s => ak1 s_ v s) 0
def ah6 (s_ : (List Int)) (v : Int) : Option Bool :=
  (an5 s_ v).bind fun x1 => some (decide (0 ≤ x1))
def ao7 (n : aa1) (t_ : aa0) (v19 : Int) : Option (Step Int Bool) :=
  if (decide (v19 < (List.length t_.Backlog : Int))) then (aa9 t_.Backlog v19).bind fun x22 => (ag5 n x22).bind fun x23 => (if (decide (x23 < 0)) then some true else (cut t_.Backlog 0 v19).bind fun x25 => (ah6 x25 x22).bind fun x26 => some x26).bind fun t27 => if t27 then some (.done false) else (aa9 n.Talks x23).bind fun x29 => if ((!decide (x29.Host = t_.Host)) || (bif (!decide (x29.State = 3)) then ((!decide (x29.State = 4)) || (!decide (x29.Opens = 0))) else (!decide (x29.Opens = 0)))) then some (.done false) else some (.cont (IntKind.wrap .i64 (v19 + 1))) else some (.done true)
def aB0 (n : aa1) (t_ : aa0) : Option Bool :=
  if (bif (decide (0 < (List.length t_.Backlog : Int))) then ((!decide (t_.State = 2)) || (decide (8 < (List.length t_.Backlog : Int)))) else (decide (8 < (List.length t_.Backlog : Int)))) then some false else ab0 (fun s => ao7 n t_ s) 0
def aM2 (x_ : aa0) (a1 : aa0) : Option Bool :=
  some (!decide (x_.Id = a1.Id))
def am3 (t_ : aa0) (a1 : Str) (a2 : aa2) (a3 : aa0) : Option Bool :=
  (if (decide (t_.Host = a1)) then if (decide (t_.State = 2)) then if (decide (t_.Local.Net = a2.Net)) then if (decide (t_.Local.Service = a2.Service)) then (aM2 t_ a3).bind fun x5 => some x5 else some false else some false else some false else some false).bind fun t6 => some t6
def ac1 (s_ : (List aa0)) (f : Str) (f' : aa2) (f'' : aa0) (v5 : Int) : Option (Step Int Int) :=
  if (decide (v5 < (List.length s_ : Int))) then (aa9 s_ v5).bind fun x8 => (am3 x8 f f' f'').bind fun x9 => if x9 then some (.done v5) else some (.cont (IntKind.wrap .i64 (v5 + 1))) else some (.done (-1))
def af3 (s_ : (List aa0)) (f : Str) (f' : aa2) (f'' : aa0) : Option Int :=
  ab0 (fun s => ac1 s_ f f' f'' s) 0
def ar0 (n : aa1) (host : Str) (a : aa2) (ok : aa0) : Option Int :=
  (af3 n.Talks host a ok).bind fun x1 => some x1
def aE2 (n : aa1) (id : Int) (count : Int) (v6 : Int) : Option (Step (Int × Int) Int) :=
  if (decide (v6 < (List.length n.Talks : Int))) then (aa9 n.Talks v6).bind fun x9 => (ah6 x9.Backlog id).bind fun x10 => if x10 then some (.cont ((IntKind.wrap .i64 (count + 1)),(IntKind.wrap .i64 (v6 + 1)))) else some (.cont (count,(IntKind.wrap .i64 (v6 + 1)))) else some (.done count)
def aK2 (n : aa1) (id : Int) : Option Int :=
  ab0 (fun s => aE2 n id s.1 s.2) (0,0)
def ax8 (n : aa1) (t_ : aa0) : Option Bool :=
  (if (decide (t_.State = 2)) then if (!decide (t_.Local.Host = t_.Host)) then some true else (ar0 n t_.Host t_.Local t_).bind fun x17 => some (decide (0 ≤ x17)) else some false).bind fun t18 => if t18 then some false else if (decide (0 < t_.Opens)) then (aK2 n t_.Id).bind fun x21 => some (decide (x21 = 0)) else (aK2 n t_.Id).bind fun x22 => some (decide (x22 = 1))
def aP3 (n : aa1) (t_ : aa0) : Option Bool :=
  if ((decide (t_.State < 1)) || ((decide (4 < t_.State)) || ((decide (t_.Opens < 0)) || ((decide (9007199254740991 < t_.Opens)) || ((decide (8192 < (List.length t_.Data : Int))) || (decide (32 < (List.length t_.Owner : Int)))))))) then some false else (if (decide (t_.State ≤ 2)) then if (!decide (t_.Data = [])) then some true else (aB0 n t_).bind fun x10 => some (!x10) else (aB0 n t_).bind fun x11 => some (!x11)).bind fun t12 => if t12 then some false else if (decide (t_.State = 3)) then (ag5 n t_.Peer).bind fun x24 => (if (decide (x24 < 0)) then some true else if (decide (t_.Peer = t_.Id)) then some true else (aa9 n.Talks x24).bind fun x27 => if (!decide (x27.State = 3)) then some true else (aa9 n.Talks x24).bind fun x29 => some (!decide (x29.Peer = t_.Id))).bind fun t30 => if t30 then some false else ax8 n t_ else if (!decide (t_.Peer = 0)) then some false else ax8 n t_
def aH8 (t_ : aa0) (a1 : aa1) : Option Bool :=
  (aP3 a1 t_).bind fun x1 => some (!x1)
def ad4 (s_ : (List aa0)) (f : aa1) (v5 : Int) : Option (Step Int Int) :=
  if (decide (v5 < (List.length s_ : Int))) then (aa9 s_ v5).bind fun x8 => (aH8 x8 f).bind fun x9 => if x9 then some (.done v5) else some (.cont (IntKind.wrap .i64 (v5 + 1))) else some (.done (-1))
def ae6 (s_ : (List aa0)) (f : aa1) : Option Int :=
  ab0 (fun s => ad4 s_ f s) 0
def ag1 (s_ : (List aa0)) (f : aa1) : Option Bool :=
  (ae6 s_ f).bind fun x1 => some (decide (0 ≤ x1))
def aB1 (n : aa1) : Option Bool :=
  (ag1 n.Talks n).bind fun x20 => some (!x20)
def au3 (n : aa1) (last : Int) (v13 : Int) : Option (Step (Int × Int) Bool) :=
  if (decide (v13 < (List.length n.Talks : Int))) then (aa9 n.Talks v13).bind fun x16 => if ((decide (x16.Id ≤ last)) || (decide (n.Next ≤ x16.Id))) then some (.done false) else some (.cont (x16.Id,(IntKind.wrap .i64 (v13 + 1)))) else (aB1 n).map .done
def au4 (n : aa1) : Option Bool :=
  (aX3 n.Db).bind fun x1 => if ((!decide (x1.2 = 0)) || ((decide (n.Next < 1)) || ((decide (1048576 < n.Next)) || (decide (64 < (List.length n.Talks : Int)))))) then some false else ab0 (fun s => au3 n s.1 s.2) (0,0)
def ae2 : Option Bool :=
  (aC5).bind fun x1 => (ag0 x1 [97] [97,110,110] 3 2).bind fun x2 => if ((!decide (x2.2.1 = 17)) || (x2.2.2.1 || (!decide (x2.2.2.2 = 0)))) then some false else (ag2 x2.1 [97] [97,110,110] 1 [97,110,110,111,117,110,99,101,32,116,99,112,33,42,33,56,48]).bind fun x7 => if (!decide (x7.2 = 0)) then some false else (ag0 x7.1 [98] [98,111,98] 3 2).bind fun x9 => if ((!decide (x9.2.1 = 33)) || (!decide (x9.2.2.2 = 0))) then some false else (ag0 x9.1 [97] [97,110,110] 19 2).bind fun x13 => if ((!x13.2.2.1) || (!decide (x13.2.2.2 = 0))) then some false else (ag2 x9.1 [98] [98,111,98] 2 [99,111,110,110,101,99,116,32,116,99,112,33,97,33,56,49]).bind fun x17 => if (!decide (x17.2 = 40)) then some false else (ag2 x9.1 [98] [98,111,98] 2 [99,111,110,110,101,99,116,32,116,99,112,33,97,33,56,48]).bind fun x19 => if (!decide (x19.2 = 0)) then some false else (ag0 x19.1 [97] [97,110,110] 19 2).bind fun x21 => if ((!decide (x21.2.1 = 49)) || (x21.2.2.1 || (!decide (x21.2.2.2 = 0)))) then some false else (ag7 x21.1 [98] [98,111,98] 34 [104,101,108,108,111]).bind fun x26 => if ((!decide (x26.2.1 = 5)) || (!decide (x26.2.2.2 = 0))) then some false else (ah2 x26.1 [97] 50 0 9).bind fun x30 => (if (decide (x30.2.1 = [104,101,108,108,111])) then if (!x30.2.2.1) then if (decide (x30.2.2.2 = 0)) then (au4 x26.1).bind fun x34 => some x34 else some false else some false else some false).bind fun t35 => some t35
def aB2 (l : (List aa4)) (i : Int) : Option (Step Int Bool) :=
  if (decide (i < (List.length l : Int))) then (aa9 l i).bind fun x7 => if x7.Query then some (.done true) else some (.cont (IntKind.wrap .i64 (i + 1))) else some (.done false)
def a08 (l : (List aa4)) : Option Bool :=
  ab0 (fun s => aB2 l s) 0
def aM3 (name : Str) : Option Bool :=
  (if (decide (0 < (List.length name : Int))) then (ai6 name 0).bind fun c2 => some (decide ((c2.toNat : Int) = 33)) else some false).bind fun t3 => some t3
def ax9 (p2 : Str) (i : Int) : Option (Step Int Bool) :=
  if (decide (i < (List.length p2 : Int))) then (ai6 p2 i).bind fun c14 => (if (decide (97 ≤ (c14.toNat : Int))) then (ai6 p2 i).bind fun c16 => some (decide ((c16.toNat : Int) ≤ 122)) else some false).bind fun t17 => (if (!t17) then if (decide (i = 0)) then some true else (ai6 p2 i).bind fun c20 => if (decide (48 ≤ (c20.toNat : Int))) then (ai6 p2 i).bind fun c22 => if (decide ((c22.toNat : Int) ≤ 57)) then some false else (ai6 p2 i).bind fun c24 => if (decide ((c24.toNat : Int) = 45)) then some false else (ai6 p2 i).bind fun c26 => some (!(decide ((c26.toNat : Int) = 95))) else (ai6 p2 i).bind fun c27 => if (decide ((c27.toNat : Int) = 45)) then some false else (ai6 p2 i).bind fun c29 => some (!(decide ((c29.toNat : Int) = 95))) else some false).bind fun t30 => if t30 then some (.done false) else some (.cont (IntKind.wrap .i64 (i + 1))) else some (.done ((decide (1 ≤ (List.length p2 : Int))) && (decide ((List.length p2 : Int) ≤ 32))))
def aB3 (p2 : Str) : Option Bool :=
  ab0 (fun s => ax9 p2 s) 0
def aP4 (s_ : Str) : Option Bool :=
  (aM3 s_).bind fun x34 => if x34 then (cut s_ 1 (List.length s_ : Int)).bind fun x36 => aB3 x36 else aB3 s_
def au5 (s_ : Str) (i : Int) : Option (Step Int Bool) :=
  if (decide (i < (List.length s_ : Int))) then (ai6 s_ i).bind fun c12 => (if (decide ((c12.toNat : Int) = 0)) then some true else (ai6 s_ i).bind fun c14 => if (decide ((c14.toNat : Int) = 10)) then some true else (ai6 s_ i).bind fun c16 => some (decide ((c16.toNat : Int) = 13))).bind fun t17 => if t17 then some (.done false) else some (.cont (IntKind.wrap .i64 (i + 1))) else some (.done true)
def aK3 (s_ : Str) : Option Bool :=
  ab0 (fun s => au5 s_ s) 0
def aw3 (before : (List aa4)) (a : aa4) (i : Int) : Option (Step Int Int) :=
  if (decide (i < (List.length before : Int))) then (aa9 before i).bind fun x17 => if (decide (x17.Name = a.Name)) then some (.done 7) else some (.cont (IntKind.wrap .i64 (i + 1))) else some (.done 0)
def a97 (before : (List aa4)) (a : aa4) : Option Int :=
  if (decide (32 ≤ (List.length before : Int))) then some 22 else (aP4 a.Name).bind fun x2 => if (!x2) then some 6 else (if a.Query then if (!decide (a.Value = [])) then some true else (aK3 a.Value).bind fun x6 => some (!x6) else (aK3 a.Value).bind fun x7 => some (!x7)).bind fun t8 => if t8 then some 2 else if (decide (1024 < (List.length a.Value : Int))) then some 4 else ab0 (fun s => aw3 before a s) 0
def ay0 (l : (List aa4)) (i : Int) : Option (Step Int Int) :=
  if (decide (i < (List.length l : Int))) then (cut l 0 i).bind fun x9 => (aa9 l i).bind fun x10 => (a97 x9 x10).bind fun x11 => if (!decide (x11 = 0)) then some (.done x11) else some (.cont (IntKind.wrap .i64 (i + 1))) else some (.done 0)
def aS1 (l : (List aa4)) : Option Int :=
  ab0 (fun s => ay0 l s) 0
def aK4 (s_ : Str) (out : Str) (odd : Bool) : Option Str :=
  if odd then (ax3 [39] out).bind fun x32 => (ax3 x32 [39]).bind fun x33 => some x33 else some s_
def au6 (s_ : Str) (out : Str) (odd : Bool) (i : Int) : Option (Step (Str × Bool × Int) Str) :=
  if (decide (i < (List.length s_ : Int))) then (if odd then some true else (ai6 s_ i).bind fun c20 => if (decide ((c20.toNat : Int) = 32)) then some true else (ai6 s_ i).bind fun c22 => if (decide ((c22.toNat : Int) = 9)) then some true else (ai6 s_ i).bind fun c24 => some (decide ((c24.toNat : Int) = 39))).bind fun t25 => (cut s_ i (IntKind.wrap .i64 (i + 1))).bind fun x26 => (ax3 out x26).bind fun x27 => (ai6 s_ i).bind fun c28 => if (decide ((c28.toNat : Int) = 39)) then (ax3 x27 [39]).bind fun x30 => some (.cont (x30,t25,(IntKind.wrap .i64 (i + 1)))) else some (.cont (x27,t25,(IntKind.wrap .i64 (i + 1)))) else (aK4 s_ out odd).map .done
def aS2 (s_ : Str) : Option Str :=
  ab0 (fun s => au6 s_ s.1 s.2.1 s.2.2) ([],(decide (s_ = [])),0)
def au7 (l : (List aa4)) (i : Int) (p20 : Str) : Option (Step (Str × Int) (Str × Int)) :=
  (aa9 l i).bind fun x21 => if x21.Query then (aa9 l i).bind fun x23 => (ax3 p20 x23.Name).bind fun x24 => (ax3 x24 [63]).bind fun x25 => some (.cont (x25,(IntKind.wrap .i64 (i + 1)))) else (aa9 l i).bind fun x26 => (ax3 p20 x26.Name).bind fun x27 => (ax3 x27 [61]).bind fun x28 => (aa9 l i).bind fun x29 => (aS2 x29.Value).bind fun x30 => (ax3 x28 x30).bind fun x31 => some (.cont (x31,(IntKind.wrap .i64 (i + 1))))
def au8 (l : (List aa4)) (s_ : Str) (i : Int) : Option (Step (Str × Int) (Str × Int)) :=
  if (decide (i < (List.length l : Int))) then if (decide (0 < i)) then (ax3 s_ [32]).bind fun x33 => au7 l i x33 else au7 l i s_ else some (.done (s_,0))
def aS3 (l : (List aa4)) : Option (Str × Int) :=
  (aS1 l).bind fun x1 => if (!decide (x1 = 0)) then some ([],x1) else ab0 (fun s => au8 l s.1 s.2) ([],0)
def ay1 (l : (List aa3)) (s_ : Str) (i : Int) : Option (Step (Str × Int) (Str × Int)) :=
  if (decide (i < (List.length l : Int))) then (aa9 l i).bind fun x18 => (if (decide ((List.length x18.Attrs : Int) = 0)) then some true else (aa9 l i).bind fun x20 => (a08 x20.Attrs).bind fun x21 => some x21).bind fun t22 => if t22 then some (.done ([],2)) else (aa9 l i).bind fun x24 => (aS3 x24.Attrs).bind fun x25 => if (!decide (x25.2 = 0)) then some (.done ([],x25.2)) else (ax3 s_ x25.1).bind fun x27 => (ax3 x27 [10]).bind fun x28 => some (.cont (x28,(IntKind.wrap .i64 (i + 1)))) else some (.done (s_,0))
def a09 (l : (List aa3)) : Option (Str × Int) :=
  if (decide (256 < (List.length l : Int))) then some ([],22) else ab0 (fun s => ay1 l s.1 s.2) ([],0)
def ar1 (n : aa1) (t_ : aa0) (a : aa2) (v9 : Int) : Option (Step Int Bool) :=
  if (decide (v9 < (List.length n.Talks : Int))) then (aa9 n.Talks v9).bind fun x12 => if ((!decide (x12.Id = t_.Id)) && ((decide (x12.Host = t_.Host)) && ((decide (x12.State = 2)) && ((decide (x12.Local.Net = a.Net)) && (decide (x12.Local.Service = a.Service)))))) then some (.done true) else some (.cont (IntKind.wrap .i64 (v9 + 1))) else some (.done false)
def au9 (n : aa1) (t_ : aa0) (a : aa2) : Option Bool :=
  ab0 (fun s => ar1 n t_ a s) 0
def aK5 (l : (List Int)) (k : Int) (v4 : Int) : Option (Step Int Bool) :=
  if (decide (v4 < (List.length l : Int))) then (aa9 l v4).bind fun x7 => if (decide (x7 = k)) then some (.done true) else some (.cont (IntKind.wrap .i64 (v4 + 1))) else some (.done false)
def a98 (l : (List Int)) (k : Int) : Option Bool :=
  ab0 (fun s => aK5 l k s) 0
def aE3 (n : aa1) (id : Int) (k : Int) (v6 : Int) : Option (Step (Int × Int) Int) :=
  if (decide (v6 < (List.length n.Talks : Int))) then (aa9 n.Talks v6).bind fun x9 => (a98 x9.Backlog id).bind fun x10 => if x10 then some (.cont ((IntKind.wrap .i64 (k + 1)),(IntKind.wrap .i64 (v6 + 1)))) else some (.cont (k,(IntKind.wrap .i64 (v6 + 1)))) else some (.done k)
def aS4 (n : aa1) (id : Int) : Option Int :=
  ab0 (fun s => aE3 n id s.1 s.2) (0,0)
def aS5 (n : aa1) (id : Int) (v4 : Int) : Option (Step Int Int) :=
  if (decide (v4 < (List.length n.Talks : Int))) then (aa9 n.Talks v4).bind fun x7 => if (decide (x7.Id = id)) then some (.done v4) else some (.cont (IntKind.wrap .i64 (v4 + 1))) else some (.done (-1))
def am4 (n : aa1) (id : Int) : Option Int :=
  ab0 (fun s => aS5 n id s) 0
def aS6 (n : aa1) (t_ : aa0) : Option Bool :=
  if (!decide (t_.State = 3)) then some (decide (t_.Peer = 0)) else (am4 n t_.Peer).bind fun x2 => (if (decide (0 ≤ x2)) then if (!decide (t_.Peer = t_.Id)) then (aa9 n.Talks x2).bind fun x5 => if (decide (x5.State = 3)) then (aa9 n.Talks x2).bind fun x7 => some (decide (x7.Peer = t_.Id)) else some false else some false else some false).bind fun t8 => some t8
def ao8 (n : aa1) (t_ : aa0) (v20 : Int) : Option (Step Int Bool) :=
  if (decide (v20 < (List.length t_.Backlog : Int))) then (aa9 t_.Backlog v20).bind fun x23 => (am4 n x23).bind fun x24 => (if (decide (x24 < 0)) then some true else (cut t_.Backlog 0 v20).bind fun x26 => (aa9 t_.Backlog v20).bind fun x27 => (a98 x26 x27).bind fun x28 => some x28).bind fun t29 => if t29 then some (.done false) else (aa9 n.Talks x24).bind fun x31 => if ((!decide (x31.Host = t_.Host)) || ((!decide (x31.Opens = 0)) || ((!decide (x31.State = 3)) && (!decide (x31.State = 4))))) then some (.done false) else some (.cont (IntKind.wrap .i64 (v20 + 1))) else some (.done true)
def aH9 (n : aa1) (t_ : aa0) : Option Bool :=
  if ((decide (8 < (List.length t_.Backlog : Int))) || ((!decide (t_.State = 2)) && (decide (0 < (List.length t_.Backlog : Int))))) then some false else ab0 (fun s => ao8 n t_ s) 0
def aS7 (n : aa1) (t_ : aa0) : Option Bool :=
  if ((decide (32 < (List.length t_.Owner : Int))) || ((decide (t_.State < 1)) || (decide (4 < t_.State)))) then some false else if ((decide (t_.Opens < 0)) || ((decide (9007199254740991 < t_.Opens)) || ((decide (8192 < (List.length t_.Data : Int))) || ((decide (0 < (List.length t_.Data : Int))) && (decide (t_.State < 3)))))) then some false else (if (decide (t_.State = 2)) then if (!decide (t_.Local.Host = t_.Host)) then some true else (au9 n t_ t_.Local).bind fun x13 => some x13 else some false).bind fun t14 => if t14 then some false else (aS4 n t_.Id).bind fun x16 => (aS6 n t_).bind fun x17 => (if x17 then (aH9 n t_).bind fun x19 => if x19 then if (decide (0 < t_.Opens)) then if (decide (x16 = 0)) then some true else if (decide (t_.Opens = 0)) then some (decide (x16 = 1)) else some false else if (decide (t_.Opens = 0)) then some (decide (x16 = 1)) else some false else some false else some false).bind fun t25 => some t25
def av0 (n : aa1) (last : Int) (v18 : Int) : Option (Step (Int × Int) Bool) :=
  if (decide (v18 < (List.length n.Talks : Int))) then (aa9 n.Talks v18).bind fun x21 => (if (decide (x21.Id ≤ last)) then some true else (aa9 n.Talks v18).bind fun x23 => if (decide (n.Next ≤ x23.Id)) then some true else (aa9 n.Talks v18).bind fun x25 => (aS7 n x25).bind fun x26 => some (!x26)).bind fun t27 => if t27 then some (.done false) else (aa9 n.Talks v18).bind fun x29 => some (.cont (x29.Id,(IntKind.wrap .i64 (v18 + 1)))) else some (.done true)
def ar2 (n : aa1) : Option Bool :=
  (a09 n.Db).bind fun x1 => if ((!decide (x1.2 = 0)) || ((decide (n.Next < 1)) || ((decide (1048576 < n.Next)) || (decide (64 < (List.length n.Talks : Int)))))) then some false else ab0 (fun s => av0 n s.1 s.2) (0,0)
def aU4 (n : aa1) : Option Bool :=
  (aq4 n).bind fun x1 => if (!x1) then (ae2).bind fun x3 => some x3 else (au4 n).bind fun x4 => (ar2 n).bind fun x5 => (if (decide (x4 = x5)) then (ae2).bind fun x7 => some x7 else some false).bind fun t8 => some t8
def aI0 (n : aa1) (id : Int) (v5 : Int) : Option (Step Int (aa0 × Bool)) :=
  if (decide (v5 < (List.length n.Talks : Int))) then (aa9 n.Talks v5).bind fun x8 => if (decide (x8.Id = id)) then (aa9 n.Talks v5).bind fun x10 => some (.done (x10,true)) else some (.cont (IntKind.wrap .i64 (v5 + 1))) else some (.done ((aa0.mk 0 [] [] 0 (aa2.mk [] [] []) (aa2.mk [] [] []) 0 [] ([] : List Int) 0),false))
def az4 (n : aa1) (id : Int) : Option (aa0 × Bool) :=
  ab0 (fun s => aI0 n id s) 0
def ar8 (a : (List aa3)) (b : (List aa3)) (v21 : Int) (x27 : aa3) (v34 : Int) : Option (Step Int (Step Int Bool)) :=
  if (decide (v34 < (List.length x27.Attrs : Int))) then (aa9 a v21).bind fun x37 => (aa9 x37.Attrs v34).bind fun x38 => (aa9 b v21).bind fun x39 => (aa9 x39.Attrs v34).bind fun x40 => if (!(decide (x38.Name = x40.Name) && (decide (x38.Value = x40.Value) && (decide (x38.Query = x40.Query) && true)))) then some (.done (.done false)) else some (.cont (IntKind.wrap .i64 (v34 + 1))) else some (.done (.cont (IntKind.wrap .i64 (v21 + 1))))
def ay8 (a : (List aa3)) (b : (List aa3)) (v21 : Int) : Option (Step Int Bool) :=
  if (decide (v21 < (List.length a : Int))) then (aa9 a v21).bind fun x24 => (aa9 b v21).bind fun x25 => if (!decide ((List.length x24.Attrs : Int) = (List.length x25.Attrs : Int))) then some (.done false) else (aa9 a v21).bind fun x27 => ab0 (fun s => ar8 a b v21 x27 s) 0 else some (.done true)
def aM4 (a : (List aa3)) (b : (List aa3)) : Option Bool :=
  if (!decide ((List.length a : Int) = (List.length b : Int))) then some false else ab0 (fun s => ay8 a b s) 0
def aw4 (a : aa0) (b : aa0) (v6 : Int) : Option (Step Int Bool) :=
  if (decide (v6 < (List.length a.Backlog : Int))) then (aa9 a.Backlog v6).bind fun x9 => (aa9 b.Backlog v6).bind fun x10 => if (!decide (x9 = x10)) then some (.done false) else some (.cont (IntKind.wrap .i64 (v6 + 1))) else some (.done ((decide (a.Id = b.Id)) && ((decide (a.Host = b.Host)) && ((decide (a.Owner = b.Owner)) && ((decide (a.State = b.State)) && ((decide (a.Local.Net = b.Local.Net) && (decide (a.Local.Host = b.Local.Host) && (decide (a.Local.Service = b.Local.Service) && true))) && ((decide (a.Remote.Net = b.Remote.Net) && (decide (a.Remote.Host = b.Remote.Host) && (decide (a.Remote.Service = b.Remote.Service) && true))) && ((decide (a.Peer = b.Peer)) && ((decide (a.Data = b.Data)) && (decide (a.Opens = b.Opens)))))))))))
def as3 (a : aa0) (b : aa0) : Option Bool :=
  if (!decide ((List.length a.Backlog : Int) = (List.length b.Backlog : Int))) then some false else ab0 (fun s => aw4 a b s) 0
def aE4 (a : aa1) (b : aa1) (v11 : Int) : Option (Step Int Bool) :=
  if (decide (v11 < (List.length a.Talks : Int))) then (aa9 a.Talks v11).bind fun x14 => (aa9 b.Talks v11).bind fun x15 => (as3 x14 x15).bind fun x16 => if (!x16) then some (.done false) else some (.cont (IntKind.wrap .i64 (v11 + 1))) else some (.done true)
def aw5 (a : aa1) (b : aa1) : Option Bool :=
  (aM4 a.Db b.Db).bind fun x1 => if ((!x1) || ((!decide (a.Next = b.Next)) || (!decide ((List.length a.Talks : Int) = (List.length b.Talks : Int))))) then some false else ab0 (fun s => aE4 a b s) 0
def aM5 (n : aa1) (id : Int) (data : Str) : Option Bool :=
  (az4 n id).bind fun x1 => (az4 n x1.1.Peer).bind fun x2 => (aq4 n).bind fun x3 => (if (!x3) then some true else if (decide (10000 < (List.length data : Int))) then some true else if (!x1.2) then some true else if (!x2.2) then some true else if (!decide (x1.1.State = 3)) then some true else (ar2 n).bind fun x9 => some (!x9)).bind fun t10 => if t10 then (ae2).bind fun x12 => some x12 else (ag7 n x1.1.Host x1.1.Owner (IntKind.wrap .i64 ((IntKind.wrap .i64 (16 * id)) + 2)) data).bind fun x13 => if (decide (8192 < (List.length data : Int))) then (if (decide (x13.2.2.2 = 4)) then (aw5 x13.1 n).bind fun x16 => if x16 then (ae2).bind fun x18 => some x18 else some false else some false).bind fun t19 => some t19 else if x13.2.2.1 then (if (decide (x13.2.2.2 = 0)) then if (decide (x13.2.1 = 0)) then if (decide (8192 < (IntKind.wrap .i64 ((List.length x2.1.Data : Int) + (List.length data : Int))))) then (aw5 x13.1 n).bind fun x24 => if x24 then (ae2).bind fun x26 => some x26 else some false else some false else some false else some false).bind fun t27 => some t27 else if ((!decide (x13.2.2.2 = 0)) || (!decide (x13.2.1 = (List.length data : Int)))) then some false else (ag2 x13.1 x1.1.Host x1.1.Owner id [104,97,110,103,117,112]).bind fun x31 => if (!decide (x31.2 = 0)) then some false else (ah2 x31.1 x2.1.Host (IntKind.wrap .i64 ((IntKind.wrap .i64 (16 * x2.1.Id)) + 2)) 0 65536).bind fun x33 => (ax3 x2.1.Data data).bind fun x34 => if ((!decide (x33.2.1 = x34)) || (x33.2.2.1 || (!decide (x33.2.2.2 = 0)))) then some false else (ah2 x33.1 x2.1.Host (IntKind.wrap .i64 ((IntKind.wrap .i64 (16 * x2.1.Id)) + 2)) 0 65536).bind fun x39 => (ag7 x33.1 x2.1.Host x2.1.Owner (IntKind.wrap .i64 ((IntKind.wrap .i64 (16 * x2.1.Id)) + 2)) [120]).bind fun x40 => (if (decide (x39.2.1 = [])) then if (!x39.2.2.1) then if (decide (x39.2.2.2 = 0)) then if (decide (x40.2.2.2 = 30)) then (ae2).bind fun x45 => some x45 else some false else some false else some false else some false).bind fun t46 => some t46
def aC9 (o : an4) : Option Bool :=
  some ((decide ((List.length o.Host : Int) ≤ 200)) && ((decide ((List.length o.User : Int) ≤ 200)) && (decide ((List.length o.Text : Int) ≤ 10000))))
def av1 (n : aa1) (id : Int) : Option aa1 :=
  (ag5 n id).bind fun x1 => if (decide (x1 < 0)) then some n else (au2 n id).bind fun x3 => (ag5 x3 id).bind fun x4 => (ac4 x3.Talks x4 (IntKind.wrap .i64 (x4 + 1))).bind fun x5 => some {x3 with Talks := x5}
def aj7 (n : aa1) (host : Str) (id : Int) (mode : Int) : Option aa1 :=
  (ah1 n).bind fun x1 => (ab7 n host id).bind fun x2 => (if (!x2.2) then some true else if (decide (x2.1.at_ < 0)) then some true else (ab5 x2.1).bind fun x5 => if x5 then some true else (aa9 n.Talks x2.1.at_).bind fun x7 => some (decide (x7.Opens ≤ 0))).bind fun t8 => if t8 then some x1 else (aa9 x1.Talks x2.1.at_).bind fun x10 => (aa9 x1.Talks x2.1.at_).bind fun x11 => (aa9 (List.set x1.Talks (Int.toNat x2.1.at_) {x11 with Opens := IntKind.wrap .i64 (x10.Opens - 1)}) x2.1.at_).bind fun x12 => if (decide (x12.Opens = 0)) then (aa9 n.Talks x2.1.at_).bind fun x14 => (av1 {x1 with Talks := List.set x1.Talks (Int.toNat x2.1.at_) {x11 with Opens := IntKind.wrap .i64 (x10.Opens - 1)}} x14.Id).bind fun x15 => some x15 else some {x1 with Talks := List.set x1.Talks (Int.toNat x2.1.at_) {x11 with Opens := IntKind.wrap .i64 (x10.Opens - 1)}}
def am5 (p2 : aa1) (p3 : ad9) : Option (aa1 × ad9) :=
  some (p2,p3)
def aB4 (n : aa1) (o : an4) : Option (aa1 × ad9) :=
  if (decide (o.Kind = 1)) then (ag2 n o.Host o.User o.Id o.Text).bind fun x5 => am5 x5.1 (ad9.mk 0 [] false x5.2) else if (decide (o.Kind = 2)) then (ag0 n o.Host o.User o.Id o.Mode).bind fun x7 => am5 x7.1 (ad9.mk x7.2.1 [] x7.2.2.1 x7.2.2.2) else if (decide (o.Kind = 3)) then (ah2 n o.Host o.Id o.Offset o.Count).bind fun x9 => am5 x9.1 (ad9.mk 0 x9.2.1 x9.2.2.1 x9.2.2.2) else if (decide (o.Kind = 4)) then (ag7 n o.Host o.User o.Id o.Text).bind fun x11 => am5 x11.1 (ad9.mk x11.2.1 [] x11.2.2.1 x11.2.2.2) else if (decide (o.Kind = 5)) then (aj7 n o.Host o.Id o.Mode).bind fun x13 => am5 x13 (ad9.mk 0 [] false 0) else am5 n (ad9.mk 0 [] false 0)
def aF5 (n : aa1) (host : Str) (id : Int) : Option Int :=
  (am4 n id).bind fun x1 => (if (decide (x1 < 0)) then some true else (aa9 n.Talks x1).bind fun x3 => some (!decide (x3.Host = host))).bind fun t4 => if t4 then some (-1) else some x1
def aK6 (c : Int) : Option Bool :=
  some ((decide (c = 32)) || ((decide (c = 9)) || ((decide (c = 10)) || (decide (c = 13)))))
def ac6 (s_ : Str) (from_ : Int) (i : Int) (out : (List Str)) : Option (Step (Int × Int × (List Str)) (List Str)) :=
  if (decide (i ≤ (List.length s_ : Int))) then (if (decide (i < (List.length s_ : Int))) then (ai6 s_ i).bind fun c24 => (aK6 (c24.toNat : Int)).bind fun x25 => some (!x25) else some false).bind fun t26 => if t26 then some (.cont (from_,(IntKind.wrap .i64 (i + 1)),out)) else if (decide (from_ < i)) then (cut s_ from_ i).bind fun x29 => (ar7 16 out [x29]).bind fun x30 => some (.cont ((IntKind.wrap .i64 (i + 1)),(IntKind.wrap .i64 (i + 1)),x30)) else some (.cont ((IntKind.wrap .i64 (i + 1)),(IntKind.wrap .i64 (i + 1)),out)) else some (.done out)
def az5 (s_ : Str) : Option (List Str) :=
  ab0 (fun s => ac6 s_ s.1 s.2.1 s.2.2) (0,0,([] : List Str))
def al1 (s_ : Str) (from_ : Int) (i : Int) (out : (List Str)) : Option (Step (Int × Int × (List Str)) (List Str)) :=
  if (decide (i ≤ (List.length s_ : Int))) then (if (decide (i = (List.length s_ : Int))) then some true else (ai6 s_ i).bind fun c14 => some (decide ((c14.toNat : Int) = 33))).bind fun t15 => if t15 then (cut s_ from_ i).bind fun x17 => (ar7 16 out [x17]).bind fun x18 => some (.cont ((IntKind.wrap .i64 (i + 1)),(IntKind.wrap .i64 (i + 1)),x18)) else some (.cont (from_,(IntKind.wrap .i64 (i + 1)),out)) else some (.done out)
def aS8 (s_ : Str) : Option (List Str) :=
  ab0 (fun s => al1 s_ s.1 s.2.1 s.2.2) (0,0,([] : List Str))
def aD0 (i : Int) (ok : Bool) : Option (Step Int Bool) :=
  if (!ok) then some (.done false) else some (.cont (IntKind.wrap .i64 (i + 1)))
def ak4 (s_ : Str) (more : Str) (i : Int) (ok : Bool) (k : Int) : Option (Step (Bool × Int) (Step Int Bool)) :=
  if (decide (k < (List.length more : Int))) then (if ok then some true else (ai6 s_ i).bind fun c52 => (ai6 more k).bind fun c53 => some (decide ((c52.toNat : Int) = (c53.toNat : Int)))).bind fun t54 => some (.cont (t54,(IntKind.wrap .i64 (k + 1)))) else (aD0 i ok).map .done
def ao9 (s_ : Str) (more : Str) (most : Int) (i : Int) : Option (Step Int Bool) :=
  if (decide (i < (List.length s_ : Int))) then (ai6 s_ i).bind fun c31 => (if (decide (97 ≤ (c31.toNat : Int))) then (ai6 s_ i).bind fun c33 => if (decide ((c33.toNat : Int) ≤ 122)) then some true else (ai6 s_ i).bind fun c35 => if (decide (48 ≤ (c35.toNat : Int))) then (ai6 s_ i).bind fun c37 => some (decide ((c37.toNat : Int) ≤ 57)) else some false else (ai6 s_ i).bind fun c38 => if (decide (48 ≤ (c38.toNat : Int))) then (ai6 s_ i).bind fun c40 => some (decide ((c40.toNat : Int) ≤ 57)) else some false).bind fun t41 => ab0 (fun s => ak4 s_ more i s.1 s.2) (t41,0) else some (.done ((decide (1 ≤ (List.length s_ : Int))) && (decide ((List.length s_ : Int) ≤ most))))
def ar3 (s_ : Str) (more : Str) (most : Int) : Option Bool :=
  ab0 (fun s => ao9 s_ more most s) 0
def aX4 (s_ : Str) : Option Bool :=
  (ar3 s_ [45,95] 32).bind fun x1 => (if x1 then (ai6 s_ 0).bind fun c3 => some (decide (97 ≤ (c3.toNat : Int))) else some false).bind fun t4 => some t4
def aP5 (s_ : Str) : Option Bool :=
  (ar3 s_ [45,95,46] 64).bind fun x1 => some x1
def aD1 (a : aa2) : Option Bool :=
  (aX4 a.Net).bind fun x1 => (if x1 then if (decide (a.Host = [42])) then if (decide (a.Service = [])) then some true else (ar3 a.Service [45,95] 32).bind fun x5 => some x5 else (aP5 a.Host).bind fun x6 => if x6 then if (decide (a.Service = [])) then some true else (ar3 a.Service [45,95] 32).bind fun x9 => some x9 else some false else some false).bind fun t10 => some t10
def ay2 (x7 : Str) (x8 : Str) (p10 : Str) : Option (aa2 × Int) :=
  (aD1 (aa2.mk x7 x8 p10)).bind fun x11 => if (!x11) then some ((aa2.mk [] [] []),36) else some ((aa2.mk x7 x8 p10),0)
def aK7 (s_ : Str) : Option (aa2 × Int) :=
  (aS8 s_).bind fun x1 => (if (decide ((List.length x1 : Int) < 2)) then some true else if (decide (3 < (List.length x1 : Int))) then some true else (aa9 x1 (IntKind.wrap .i64 ((List.length x1 : Int) - 1))).bind fun x4 => some (decide (x4 = []))).bind fun t5 => if t5 then some ((aa2.mk [] [] []),36) else (aa9 x1 0).bind fun x7 => (aa9 x1 1).bind fun x8 => if (decide ((List.length x1 : Int) = 3)) then (aa9 x1 2).bind fun x14 => ay2 x7 x8 x14 else ay2 x7 x8 []
def aw6 (l : (List aa4)) (name : Str) (i : Int) : Option (Step Int (Str × Bool)) :=
  if (decide (i < (List.length l : Int))) then (aa9 l i).bind fun x11 => (if (decide (x11.Name = name)) then (aa9 l i).bind fun x13 => some (!x13.Query) else some false).bind fun t14 => if t14 then (aa9 l i).bind fun x16 => some (.done (x16.Value,true)) else some (.cont (IntKind.wrap .i64 (i + 1))) else some (.done ([],false))
def aP6 (l : (List aa4)) (name : Str) : Option (Str × Bool) :=
  ab0 (fun s => aw6 l name s) 0
def aF6 (l : (List Str)) (s_ : Str) (i : Int) : Option (Step Int Bool) :=
  if (decide (i < (List.length l : Int))) then (aa9 l i).bind fun x7 => if (decide (x7 = s_)) then some (.done true) else some (.cont (IntKind.wrap .i64 (i + 1))) else some (.done false)
def aP7 (l : (List Str)) (s_ : Str) : Option Bool :=
  ab0 (fun s => aF6 l s_ s) 0
def ar9 (l : (List aa3)) (name : Str) (i : Int) (out : (List Str)) : Option (Step (Int × (List Str)) (List Str)) :=
  if (decide (i < (List.length l : Int))) then (aa9 l i).bind fun x13 => (aP6 x13.Attrs name).bind fun x14 => (if x14.2 then (aP7 out x14.1).bind fun x16 => some (!x16) else some false).bind fun t17 => if t17 then (ar7 16 out [x14.1]).bind fun x19 => some (.cont ((IntKind.wrap .i64 (i + 1)),x19)) else some (.cont ((IntKind.wrap .i64 (i + 1)),out)) else some (.done out)
def aq0 (l : (List aa3)) (name : Str) : Option (List Str) :=
  ab0 (fun s => ar9 l name s.1 s.2) (0,([] : List Str))
def aE5 (x1 : (List Str)) (i : Int) (out : (List Str)) : Option (Step (Int × (List Str)) (List Str)) :=
  if (decide (i < (List.length x1 : Int))) then (aa9 x1 i).bind fun x15 => (aX4 x15).bind fun x16 => (if x16 then (aa9 x1 i).bind fun x18 => some (!decide (x18 = [110,101,116])) else some false).bind fun t19 => if t19 then (aa9 x1 i).bind fun x21 => (ar7 16 out [x21]).bind fun x22 => some (.cont ((IntKind.wrap .i64 (i + 1)),x22)) else some (.cont ((IntKind.wrap .i64 (i + 1)),out)) else some (.done out)
def aP8 (l : (List aa3)) : Option (List Str) :=
  (aq0 l [110,101,116]).bind fun x1 => ab0 (fun s => aE5 x1 s.1 s.2) (0,([] : List Str))
def aS9 (l : (List aa3)) (name : Str) : Option Bool :=
  (aq0 l [104,111,115,116]).bind fun x1 => (aP7 x1 name).bind fun x2 => some x2
def aK8 (want : Str) (hit : (List aa3)) : Option (List Str) :=
  (aq0 hit want).bind fun x20 => some x20
def av2 (l : (List aa3)) (name : Str) (value : Str) (want : Str) (i : Int) (hit : (List aa3)) : Option (Step (Int × (List aa3)) (List Str)) :=
  if (decide (i < (List.length l : Int))) then (aa9 l i).bind fun x13 => (aP6 x13.Attrs name).bind fun x14 => if (x14.2 && (decide (x14.1 = value))) then (aa9 l i).bind fun x18 => (ar7 24 hit [x18]).bind fun x19 => some (.cont ((IntKind.wrap .i64 (i + 1)),x19)) else some (.cont ((IntKind.wrap .i64 (i + 1)),hit)) else (aK8 want hit).map .done
def ar4 (l : (List aa3)) (name : Str) (value : Str) (want : Str) : Option (List Str) :=
  ab0 (fun s => av2 l name value want s.1 s.2) (0,([] : List aa3))
def aB5 (p7 : (List Str)) (i : Int) (out : (List Str)) : Option (Step (Int × (List Str)) (List Str)) :=
  if (decide (i < (List.length p7 : Int))) then (aa9 p7 i).bind fun x18 => (aP5 x18).bind fun x19 => if x19 then (aa9 p7 i).bind fun x21 => (ar7 16 out [x21]).bind fun x22 => some (.cont ((IntKind.wrap .i64 (i + 1)),x22)) else some (.cont ((IntKind.wrap .i64 (i + 1)),out)) else some (.done out)
def ay3 (p7 : (List Str)) : Option (List Str) :=
  ab0 (fun s => aB5 p7 s.1 s.2) (0,([] : List Str))
def aT0 (l : (List aa3)) (host : Str) (name : Str) : Option (List Str) :=
  (if (decide (name = [42])) then some true else if (!decide (name = [115,101,108,102])) then (aS9 l name).bind fun x3 => some x3 else some false).bind fun t4 => if t4 then some [name] else if (!decide (name = [115,101,108,102])) then (ar4 l [97,108,105,97,115] name [104,111,115,116]).bind fun x24 => ay3 x24 else ay3 [host]
def aK9 (base : Int) : Option Bool :=
  some ((decide (base = 8)) || ((decide (base = 10)) || (decide (base = 16))))
def aD2 (c : Int) : Option Int :=
  if ((decide (48 ≤ c)) && (decide (c ≤ 57))) then some (IntKind.wrap .i64 ((IntKind.wrap .i64 c) - 48)) else if ((decide (97 ≤ c)) && (decide (c ≤ 102))) then some (IntKind.wrap .i64 ((IntKind.wrap .i64 ((IntKind.wrap .i64 c) - 97)) + 10)) else some (-1)
def ap0 (s_ : Str) (base : Int) (most : Int) (n : Int) (i : Int) : Option (Step (Int × Int) (Int × Int)) :=
  if (decide (i < (List.length s_ : Int))) then (ai6 s_ i).bind fun c23 => (aD2 (c23.toNat : Int)).bind fun x24 => (if (decide (x24 < 0)) then some true else if (decide (base ≤ x24)) then some true else if (decide (most < x24)) then some true else (ce5 .i64 (IntKind.wrap .i64 (most - x24)) base).bind fun x28 => some (decide (x28 < n))).bind fun t29 => if t29 then some (.done (0,5)) else some (.cont ((IntKind.wrap .i64 ((IntKind.wrap .i64 (n * base)) + x24)),(IntKind.wrap .i64 (i + 1)))) else some (.done (n,0))
def aT1 (s_ : Str) (base : Int) (most : Int) : Option (Int × Int) :=
  (aK9 base).bind fun x1 => if ((!x1) || (decide (most < 0))) then some (0,1) else (if (decide (s_ = [])) then some true else if (decide (1 < (List.length s_ : Int))) then (ai6 s_ 0).bind fun c7 => some (decide ((c7.toNat : Int) = 48)) else some false).bind fun t8 => if t8 then some (0,5) else ab0 (fun s => ap0 s_ base most s.1 s.2) (0,0)
def aP9 (s_ : Str) : Option Bool :=
  (aT1 s_ 10 65535).bind fun x1 => some ((decide (x1.2 = 0)) && (decide (1 ≤ x1.1)))
def as4 (x5 : (List Str)) (i : Int) : Option (Step Int Str) :=
  if (decide (i < (List.length x5 : Int))) then (aa9 x5 i).bind fun x14 => (aP9 x14).bind fun x15 => if x15 then (aa9 x5 i).bind fun x17 => some (.done x17) else some (.cont (IntKind.wrap .i64 (i + 1))) else some (.done [])
def aB6 (l : (List aa3)) (net : Str) (p2 : Str) : Option Str :=
  (aP9 p2).bind fun x3 => if x3 then some p2 else (ar4 l [115,101,114,118,105,99,101] p2 net).bind fun x5 => ab0 (fun s => as4 x5 s) 0
def a10 (l : (List aa3)) (net : Str) (service : Str) : Option Str :=
  if (decide (service = [])) then (ar4 l [110,101,116] net [115,101,114,118,105,99,101]).bind fun x19 => if (decide ((List.length x19 : Int) = 0)) then some [] else (aa9 x19 0).bind fun x21 => aB6 l net x21 else aB6 l net service
def ai8 (p5 : (List Str)) (x7 : (List Str)) (i : Int) (x32 : Str) (k : Int) (out_1 : (List aa2)) : Option (Step (Int × (List aa2)) (Step (Int × (List aa2)) ((List aa2) × Int))) :=
  if ((decide (k < (List.length x7 : Int))) && (!decide (x32 = []))) then (aa9 p5 i).bind fun x45 => (aa9 x7 k).bind fun x46 => (ar7 48 out_1 [(aa2.mk x45 x46 x32)]).bind fun x47 => some (.cont ((IntKind.wrap .i64 (k + 1)),x47)) else some (.done (.cont ((IntKind.wrap .i64 (i + 1)),out_1)))
def az2 (out : (List aa2)) : Option ((List aa2) × Int) :=
  if (decide ((List.length out : Int) = 0)) then some (([] : List aa2),39) else some (out,0)
def al2 (l : (List aa3)) (a : aa2) (p5 : (List Str)) (x7 : (List Str)) (i : Int) (out : (List aa2)) : Option (Step (Int × (List aa2)) ((List aa2) × Int)) :=
  if (decide (i < (List.length p5 : Int))) then (aa9 p5 i).bind fun x31 => (a10 l x31 a.Service).bind fun x32 => ab0 (fun s => ai8 p5 x7 i x32 s.1 s.2) (0,out) else (az2 out).map .done
def am6 (l : (List aa3)) (host : Str) (a : aa2) (p5 : (List Str)) : Option ((List aa2) × Int) :=
  if (decide ((List.length p5 : Int) = 0)) then some (([] : List aa2),37) else (aT0 l host a.Host).bind fun x7 => if (decide ((List.length x7 : Int) = 0)) then some (([] : List aa2),38) else ab0 (fun s => al2 l a p5 x7 s.1 s.2) (0,([] : List aa2))
def av3 (l : (List aa3)) (host : Str) (a : aa2) : Option ((List aa2) × Int) :=
  (aD1 a).bind fun x1 => if (!x1) then some (([] : List aa2),36) else (aP8 l).bind fun x3 => if (!decide (a.Net = [110,101,116])) then (aP7 x3 a.Net).bind fun x51 => if (!x51) then some (([] : List aa2),37) else am6 l host a [a.Net] else am6 l host a x3
def aQ0 (n : aa1) : Option Bool :=
  some ((decide (64 ≤ (List.length n.Talks : Int))) || (decide (1048575 < n.Next)))
def ay9 (n : aa1) (a : aa2) (v9 : Int) : Option (Step Int Int) :=
  if (decide (v9 < (List.length n.Talks : Int))) then (aa9 n.Talks v9).bind fun x12 => if ((decide (x12.Host = a.Host)) && ((decide (x12.State = 2)) && ((decide (x12.Local.Net = a.Net)) && ((decide (x12.Local.Service = a.Service)) && (decide ((List.length x12.Backlog : Int) < 8)))))) then some (.done v9) else some (.cont (IntKind.wrap .i64 (v9 + 1))) else some (.done (-1))
def aM6 (n : aa1) (a : aa2) : Option Int :=
  ab0 (fun s => ay9 n a s) 0
def ap1 (base : Int) (n_1 : Int) (s_ : Str) : Option (Step (Int × Str) Str) :=
  if ((decide (n_1 < 0)) || (decide (s_ = []))) then (remI n_1 base).bind fun x12 => (cut [48,49,50,51,52,53,54,55,56,57,97,98,99,100,101,102] (IntKind.wrap .i64 (0 - x12)) (IntKind.wrap .i64 ((IntKind.wrap .i64 (0 - x12)) + 1))).bind fun x13 => (ax3 x13 s_).bind fun x14 => (ce5 .i64 n_1 base).bind fun x15 => some (.cont (x15,x14)) else some (.done s_)
def aF7 (n : Int) (base : Int) : Option Str :=
  ab0 (fun s => ap1 base s.1 s.2) (n,[])
def aD3 (n : Int) (base : Int) : Option Str :=
  (aK9 base).bind fun x1 => if (!x1) then some [] else if (decide (n < 0)) then (aF7 n base).bind fun x4 => (ax3 [45] x4).bind fun x5 => some x5 else (aF7 (IntKind.wrap .i64 (0 - n)) base).bind fun x6 => some x6
def ah3 (n : aa1) (i : Int) (t_ : aa0) : Option aa1 :=
  (ar7 200 ([] : List aa0) n.Talks).bind fun x1 => (aa9 x1 i).bind fun x2 => some {n with Talks := List.set x1 (Int.toNat i) t_}
def a11 (n : aa1) (i : Int) (k : Int) (a : aa2) : Option aa1 :=
  (aa9 n.Talks i).bind fun x1 => (aa9 n.Talks k).bind fun x2 => (aD3 (IntKind.wrap .i64 (32768 + x1.Id)) 10).bind fun x3 => (ar7 8 ([] : List Int) x2.Backlog).bind fun x4 => (ar7 8 x4 [n.Next]).bind fun x5 => (ah3 n i {x1 with State := 3,Local := aa2.mk a.Net x1.Host x3,Remote := a,Peer := n.Next}).bind fun x6 => (ah3 x6 k {x2 with Backlog := x5}).bind fun x7 => (ar7 200 x7.Talks [(aa0.mk n.Next x2.Host x2.Owner 3 x2.Local (aa2.mk a.Net x1.Host x3) x1.Id [] ([] : List Int) 0)]).bind fun x8 => some (aa1.mk x7.Db (IntKind.wrap .i64 (n.Next + 1)) x8)
def ap2 (n : aa1) (i : Int) (x5 : ((List aa2) × Int)) (v15 : Int) : Option (Step Int (aa1 × Int)) :=
  if (decide (v15 < (List.length x5.1 : Int))) then (aa9 x5.1 v15).bind fun x18 => (aM6 n x18).bind fun x19 => if (decide (0 ≤ x19)) then (aa9 x5.1 v15).bind fun x21 => (a11 n i x19 x21).bind fun x22 => some (.done (x22,0)) else some (.cont (IntKind.wrap .i64 (v15 + 1))) else some (.done (n,40))
def aI1 (n : aa1) (i : Int) (address : Str) : Option (aa1 × Int) :=
  (aa9 n.Talks i).bind fun x1 => if (!decide (x1.State = 1)) then some (n,43) else (aK7 address).bind fun x3 => if (!decide (x3.2 = 0)) then some (n,x3.2) else (av3 n.Db x1.Host x3.1).bind fun x5 => if (!decide (x5.2 = 0)) then some (n,x5.2) else (aQ0 n).bind fun x7 => if x7 then some (n,22) else ab0 (fun s => ap2 n i x5 s) 0
def ak5 (n : aa1) (i : Int) (x1 : aa0) (p6 : aa2) : Option (aa1 × Int) :=
  (av3 n.Db x1.Host p6).bind fun x7 => if (!decide (x7.2 = 0)) then some (n,x7.2) else (if (decide ((List.length x7.1 : Int) = 0)) then some true else (aa9 x7.1 0).bind fun x10 => some (!decide (x10.Host = x1.Host))).bind fun t11 => if t11 then some (n,38) else (aa9 x7.1 0).bind fun x13 => (au9 n x1 x13).bind fun x14 => if x14 then some (n,41) else (aa9 x7.1 0).bind fun x16 => (ah3 n i {x1 with State := 2,Local := x16}).bind fun x17 => some (x17,0)
def aE6 (n : aa1) (i : Int) (address : Str) : Option (aa1 × Int) :=
  (aa9 n.Talks i).bind fun x1 => if (!decide (x1.State = 1)) then some (n,43) else (aK7 address).bind fun x3 => if (!decide (x3.2 = 0)) then some (n,x3.2) else if (decide (x3.1.Host = [42])) then ak5 n i x1 {x3.1 with Host := [115,101,108,102]} else ak5 n i x1 x3.1
def aL0 (n : aa1) (i : Int) : Option aa1 :=
  (aa9 n.Talks i).bind fun x1 => if (!decide (x1.State = 3)) then some n else (am4 n x1.Peer).bind fun x3 => (ah3 n i {x1 with State := 4,Peer := 0}).bind fun x4 => if (decide (x3 < 0)) then some x4 else (aa9 x4.Talks x3).bind fun x6 => (ah3 x4 x3 {x6 with State := 4,Peer := 0}).bind fun x7 => some x7
def az0 (n : aa1) (id : Int) (v6 : Int) (l : (List aa0)) : Option (Step (Int × (List aa0)) aa1) :=
  if (decide (v6 < (List.length n.Talks : Int))) then (aa9 n.Talks v6).bind fun x10 => if (!decide (x10.Id = id)) then (aa9 n.Talks v6).bind fun x12 => (ar7 200 l [x12]).bind fun x13 => some (.cont ((IntKind.wrap .i64 (v6 + 1)),x13)) else some (.cont ((IntKind.wrap .i64 (v6 + 1)),l)) else some (.done {n with Talks := l})
def aw7 (n : aa1) (id : Int) : Option aa1 :=
  ab0 (fun s => az0 n id s.1 s.2) (0,([] : List aa0))
def az1 (id : Int) (v13 : aa1) : Option aa1 :=
  (am4 v13 id).bind fun x22 => if (decide (x22 < 0)) then some v13 else (aa9 v13.Talks x22).bind fun x24 => (ah3 v13 x22 {x24 with State := 4,Backlog := []}).bind fun x25 => some x25
def as0 (id : Int) (x2 : aa0) (v12 : Int) (v13 : aa1) : Option (Step (Int × aa1) aa1) :=
  if (decide (v12 < (List.length x2.Backlog : Int))) then (aa9 x2.Backlog v12).bind fun x16 => (am4 v13 x16).bind fun x17 => if (decide (0 ≤ x17)) then (aL0 v13 x17).bind fun x19 => (aa9 x2.Backlog v12).bind fun x20 => (aw7 x19 x20).bind fun x21 => some (.cont ((IntKind.wrap .i64 (v12 + 1)),x21)) else some (.cont ((IntKind.wrap .i64 (v12 + 1)),v13)) else (az1 id v13).map .done
def aF8 (n : aa1) (id : Int) : Option aa1 :=
  (am4 n id).bind fun x1 => (aa9 n.Talks x1).bind fun x2 => if (!decide (x2.State = 2)) then (aL0 n x1).bind fun x4 => some x4 else ab0 (fun s => as0 id x2 s.1 s.2) (0,n)
def aB7 (n : aa1) (host : Str) (user : Str) (talk : Int) (line : Str) : Option (aa1 × Int) :=
  (aF5 n host talk).bind fun x1 => if (decide (x1 < 0)) then some (n,8) else (aa9 n.Talks x1).bind fun x3 => if (!decide (x3.Owner = user)) then some (n,11) else (az5 line).bind fun x5 => (if (decide ((List.length x5 : Int) = 2)) then (aa9 x5 0).bind fun x7 => some (decide (x7 = [99,111,110,110,101,99,116])) else some false).bind fun t8 => if t8 then (aa9 x5 1).bind fun x10 => (aI1 n x1 x10).bind fun x11 => some (x11.1,x11.2) else (if (decide ((List.length x5 : Int) = 2)) then (aa9 x5 0).bind fun x13 => some (decide (x13 = [97,110,110,111,117,110,99,101])) else some false).bind fun t14 => if t14 then (aa9 x5 1).bind fun x16 => (aE6 n x1 x16).bind fun x17 => some (x17.1,x17.2) else (if (!decide ((List.length x5 : Int) = 1)) then some true else (aa9 x5 0).bind fun x19 => some (!decide (x19 = [104,97,110,103,117,112]))).bind fun t20 => if t20 then some (n,54) else (aa9 n.Talks x1).bind fun x22 => (if (!decide (x22.State = 3)) then (aa9 n.Talks x1).bind fun x24 => some (!decide (x24.State = 2)) else some false).bind fun t25 => if t25 then some (n,43) else (aF8 n talk).bind fun x27 => some (x27,0)
def ab8 (n : aa1) (host : Str) (id : Int) : Option Bool :=
  if ((decide (id = 1)) || (decide (id = 3))) then some true else (if (decide (16 ≤ id)) then if (decide ((Int.tmod id 16) ≤ 6)) then (aF5 n host (IntKind.wrap .i64 (Int.tdiv id 16))).bind fun x6 => some (decide (0 ≤ x6)) else some false else some false).bind fun t7 => some t7
def aI2 (mode : Int) (base : Int) : Option (Step Int (Int × Bool × Bool)) :=
  if (decide (base ≤ 3)) then if ((decide ((IntKind.wrap .i64 (mode - base)) = 0)) || (decide ((IntKind.wrap .i64 (mode - base)) = 64))) then some (.done (base,false,true)) else if ((decide ((IntKind.wrap .i64 (mode - base)) = 16)) || (decide ((IntKind.wrap .i64 (mode - base)) = 80))) then some (.done (base,true,true)) else some (.cont (IntKind.wrap .i64 (base + 1))) else some (.done (0,false,false))
def a12 (mode : Int) : Option (Int × Bool × Bool) :=
  ab0 (fun s => aI2 mode s) 0
def aT2 (x1 : (Int × Bool × Bool)) (p10 : Int) : Option (Int × Int) :=
  if (x1.2.1 && (decide ((Int.tmod (IntKind.wrap .i64 (Int.tdiv p10 2)) 2) = 0))) then some ((IntKind.wrap .i64 (p10 + 2)),0) else some (p10,0)
def aT3 (x1 : (Int × Bool × Bool)) (p8 : Int) : Option (Int × Int) :=
  if (decide (x1.1 = 3)) then aT2 x1 1 else aT2 x1 p8
def aB8 (x1 : (Int × Bool × Bool)) (p6 : Int) : Option (Int × Int) :=
  if (decide (x1.1 = 2)) then aT3 x1 6 else aT3 x1 p6
def aD4 (mode : Int) : Option (Int × Int) :=
  (a12 (Int.tmod mode 1000)).bind fun x1 => if ((!x1.2.2) || (!decide (mode = (Int.tmod mode 1000)))) then some (0,12) else if (decide (x1.1 = 1)) then aB8 x1 2 else aB8 x1 4
def ab4 (id : Int) : Option Bool :=
  some ((decide (id = 1)) || ((decide (16 ≤ id)) && (decide ((Int.tmod id 16) = 0))))
def aD5 (id : Int) : Option Int :=
  (ab4 id).bind fun x1 => if x1 then some 2147484013 else if (decide (id = 3)) then some 438 else if (decide ((Int.tmod id 16) ≤ 3)) then some 384 else some 292
def ay4 (id : Int) (m : Int) (x3 : (Int × Int)) (p7 : Int) : Option Int :=
  (ab4 id).bind fun x8 => if (x8 && (!decide (m = 0))) then some 10 else if ((decide (64 ≤ m)) || ((decide ((Int.tmod (IntKind.wrap .i64 (Int.tdiv p7 4)) 2) < (Int.tmod (IntKind.wrap .i64 (Int.tdiv x3.1 4)) 2))) || ((decide ((Int.tmod (IntKind.wrap .i64 (Int.tdiv p7 2)) 2) < (Int.tmod (IntKind.wrap .i64 (Int.tdiv x3.1 2)) 2))) || (decide ((Int.tmod p7 2) < (Int.tmod x3.1 2)))))) then some 11 else some 0
def ar5 (n : aa1) (host : Str) (user : Str) (id : Int) (m : Int) : Option Int :=
  (ab8 n host id).bind fun x1 => if (!x1) then some 8 else (aD4 m).bind fun x3 => if (!decide (x3.2 = 0)) then some x3.2 else (aD5 id).bind fun x5 => (aF5 n host (IntKind.wrap .i64 (Int.tdiv id 16))).bind fun x17 => (if (decide (16 ≤ id)) then (aa9 n.Talks x17).bind fun x19 => some (decide (x19.Owner = user)) else some false).bind fun t20 => if t20 then (aD5 id).bind fun x22 => ay4 id m x3 (Int.tmod (IntKind.wrap .i64 (Int.tdiv x22 64)) 8) else ay4 id m x3 (Int.tmod x5 8)
def ap3 (n : aa1) (host : Str) (user : Str) (id : Int) (m : Int) : Option (aa1 × Int × Bool × Int) :=
  (ar5 n host user id m).bind fun x1 => if (!decide (x1 = 0)) then some (n,0,false,x1) else (ab4 id).bind fun x3 => if x3 then some (n,id,false,0) else if (decide (id = 3)) then if (decide (32 < (List.length user : Int))) then some (n,0,false,25) else (aQ0 n).bind fun x7 => if x7 then some (n,0,false,22) else (ar7 200 ([] : List aa0) n.Talks).bind fun x9 => (ar7 200 x9 [(aa0.mk n.Next host user 1 (aa2.mk [] [] []) (aa2.mk [] [] []) 0 [] ([] : List Int) 1)]).bind fun x10 => some ((aa1.mk n.Db (IntKind.wrap .i64 (n.Next + 1)) x10),(IntKind.wrap .i64 ((IntKind.wrap .i64 (16 * n.Next)) + 1)),false,0) else (am4 n (IntKind.wrap .i64 (Int.tdiv id 16))).bind fun x11 => (aa9 n.Talks x11).bind fun x12 => if ((!decide ((Int.tmod id 16) = 3)) && (decide (x12.Opens = 0))) then some (n,0,false,43) else if ((!decide ((Int.tmod id 16) = 3)) && (decide (9007199254740991 ≤ x12.Opens))) then some (n,0,false,22) else if (!decide ((Int.tmod id 16) = 3)) then (ah3 n x11 {x12 with Opens := IntKind.wrap .i64 (x12.Opens + 1)}).bind fun x20 => some (x20,id,false,0) else if (!decide (x12.State = 2)) then some (n,0,false,43) else if (decide ((List.length x12.Backlog : Int) = 0)) then some (n,0,true,0) else (aa9 x12.Backlog 0).bind fun x23 => (cut x12.Backlog 1 (List.length x12.Backlog : Int)).bind fun x24 => (ar7 8 ([] : List Int) x24).bind fun x25 => (ah3 n x11 {x12 with Backlog := x25}).bind fun x26 => (am4 x26 x23).bind fun x27 => (aa9 x26.Talks (max x27 0)).bind fun x28 => (ah3 x26 (max x27 0) {x28 with Opens := 1}).bind fun x29 => some (x29,(IntKind.wrap .i64 ((IntKind.wrap .i64 (16 * x23)) + 1)),false,0)
def aM7 (state : Int) : Option Str :=
  if (decide (state = 1)) then some [105,100,108,101] else if (decide (state = 2)) then some [97,110,110,111,117,110,99,101,100] else if (decide (state = 3)) then some [111,112,101,110] else some [104,117,110,103,117,112]
def aL1 (a : aa2) : Option (Str × Int) :=
  (aD1 a).bind fun x1 => if (!x1) then some ([],36) else if (decide (a.Service = [])) then (ax3 a.Net [33]).bind fun x4 => (ax3 x4 a.Host).bind fun x5 => some (x5,0) else (ax3 a.Net [33]).bind fun x6 => (ax3 x6 a.Host).bind fun x7 => (ax3 x7 [33]).bind fun x8 => (ax3 x8 a.Service).bind fun x9 => some (x9,0)
def aE7 (t_ : aa0) (k : Int) : Option Str :=
  if (decide (k = 1)) then (aD3 t_.Id 10).bind fun x2 => some x2 else if (decide (k = 4)) then (aM7 t_.State).bind fun x4 => some x4 else if (decide (k = 5)) then (aL1 t_.Local).bind fun x6 => some x6.1 else if (decide (k = 6)) then (aL1 t_.Remote).bind fun x8 => some x8.1 else some []
def aL2 (s_ : Str) (offset : Int) (count : Int) : Option Str :=
  if (decide ((List.length s_ : Int) ≤ offset)) then some [] else (cut s_ offset (List.length s_ : Int)).bind fun x2 => if (decide (count < (List.length x2 : Int))) then (cut x2 0 count).bind fun x4 => some x4 else some x2
def as5 (n : aa1) (host : Str) (id : Int) (offset : Int) (count : Int) : Option (aa1 × Str × Bool × Int) :=
  (ab8 n host id).bind fun x1 => if (!x1) then some (n,[],false,8) else (ab4 id).bind fun x3 => if x3 then some (n,[],false,10) else if ((decide (offset < 0)) || (decide (count < 0))) then some (n,[],false,1) else if (decide (id = 3)) then some (n,[],false,0) else (am4 n (IntKind.wrap .i64 (Int.tdiv id 16))).bind fun x9 => (aa9 n.Talks x9).bind fun x10 => if (!decide ((Int.tmod id 16) = 2)) then (aE7 x10 (Int.tmod id 16)).bind fun x12 => (aL2 x12 offset (min count 65536)).bind fun x13 => some (n,x13,false,0) else if (decide (x10.State < 3)) then some (n,[],false,43) else if (decide (x10.Data = [])) then some (n,[],(decide (x10.State = 3)),0) else (aL2 x10.Data 0 (min count 65536)).bind fun x16 => (cut x10.Data (List.length x16 : Int) (List.length x10.Data : Int)).bind fun x17 => (ah3 n x9 {x10 with Data := x17}).bind fun x18 => some (x18,x16,false,0)
def a13 (n : aa1) (i : Int) (data : Str) : Option (aa1 × Int × Bool × Int) :=
  (aa9 n.Talks i).bind fun x1 => (am4 n x1.Peer).bind fun x2 => if (decide (x1.State < 3)) then some (n,0,false,43) else if ((!decide (x1.State = 3)) || (decide (x2 < 0))) then some (n,0,false,30) else if (decide (8192 < (List.length data : Int))) then some (n,0,false,4) else (aa9 n.Talks x2).bind fun x8 => if (decide ((IntKind.wrap .i64 (8192 - (List.length data : Int))) < (List.length x8.Data : Int))) then some (n,0,true,0) else (aa9 n.Talks x2).bind fun x10 => (ax3 x10.Data data).bind fun x11 => (ah3 n x2 {x10 with Data := x11}).bind fun x12 => some (x12,(List.length data : Int),false,0)
def ar6 (n : aa1) (host : Str) (user : Str) (id : Int) (data : Str) : Option (aa1 × Int × Bool × Int) :=
  (ab8 n host id).bind fun x1 => if (!x1) then some (n,0,false,8) else (ab4 id).bind fun x3 => if x3 then some (n,0,false,10) else if ((decide (16 ≤ id)) && (decide ((Int.tmod id 16) = 2))) then (am4 n (IntKind.wrap .i64 (Int.tdiv id 16))).bind fun x8 => (a13 n x8 data).bind fun x9 => some (x9.1,x9.2.1,x9.2.2.1,x9.2.2.2) else if ((decide (id < 16)) || (!decide ((Int.tmod id 16) = 1))) then some (n,0,false,11) else (aB7 n host user (IntKind.wrap .i64 (Int.tdiv id 16)) data).bind fun x13 => if (!decide (x13.2 = 0)) then some (n,0,false,x13.2) else some (x13.1,(List.length data : Int),false,0)
def an1 (n : aa1) (host : Str) (id : Int) (m : Int) : Option aa1 :=
  (if (decide (id < 16)) then some true else (ab4 id).bind fun x2 => if x2 then some true else (ab8 n host id).bind fun x4 => some (!x4)).bind fun t5 => if t5 then some n else (am4 n (IntKind.wrap .i64 (Int.tdiv id 16))).bind fun x7 => (aa9 n.Talks x7).bind fun x8 => if (decide (x8.Opens = 0)) then some n else (ah3 n x7 {x8 with Opens := IntKind.wrap .i64 (x8.Opens - 1)}).bind fun x10 => if (decide (0 < (IntKind.wrap .i64 (x8.Opens - 1)))) then some x10 else (aF8 x10 x8.Id).bind fun x12 => (aw7 x12 x8.Id).bind fun x13 => some x13
def am7 (p2 : aa1) (p3 : ad9) : Option (aa1 × ad9) :=
  some (p2,p3)
def aQ1 (n : aa1) (o : an4) : Option (aa1 × ad9) :=
  if (decide (o.Kind = 1)) then (aB7 n o.Host o.User o.Id o.Text).bind fun x5 => am7 x5.1 (ad9.mk 0 [] false x5.2) else if (decide (o.Kind = 2)) then (ap3 n o.Host o.User o.Id o.Mode).bind fun x7 => am7 x7.1 (ad9.mk x7.2.1 [] x7.2.2.1 x7.2.2.2) else if (decide (o.Kind = 3)) then (as5 n o.Host o.Id o.Offset o.Count).bind fun x9 => am7 x9.1 (ad9.mk 0 x9.2.1 x9.2.2.1 x9.2.2.2) else if (decide (o.Kind = 4)) then (ar6 n o.Host o.User o.Id o.Text).bind fun x11 => am7 x11.1 (ad9.mk x11.2.1 [] x11.2.2.1 x11.2.2.2) else if (decide (o.Kind = 5)) then (an1 n o.Host o.Id o.Mode).bind fun x13 => am7 x13 (ad9.mk 0 [] false 0) else am7 n (ad9.mk 0 [] false 0)
def aG5 (v16 : aa1) (v17 : aa1) : Option Bool :=
  (aw5 v16 v17).bind fun x29 => (if x29 then (au4 v16).bind fun x31 => if x31 then (ae2).bind fun x33 => some x33 else some false else some false).bind fun t34 => some t34
def aG6 (ops : (List an4)) (v15 : Int) (v16 : aa1) (v17 : aa1) : Option (Step (Int × aa1 × aa1) Bool) :=
  if (decide (v15 < (List.length ops : Int))) then (aa9 ops v15).bind fun x20 => (aC9 x20).bind fun x21 => if (!x21) then (ae2).bind fun x23 => some (.done x23) else (aa9 ops v15).bind fun x24 => (aB4 v16 x24).bind fun x25 => (aa9 ops v15).bind fun x26 => (aQ1 v17 x26).bind fun x27 => if (!(decide (x25.2.N = x27.2.N) && (decide (x25.2.Text = x27.2.Text) && (decide (x25.2.Blocked = x27.2.Blocked) && (decide (x25.2.Err = x27.2.Err) && true))))) then some (.done false) else some (.cont ((IntKind.wrap .i64 (v15 + 1)),x25.1,x27.1)) else (aG5 v16 v17).map .done
def aU5 (ops : (List an4)) : Option Bool :=
  if (decide (40 < (List.length ops : Int))) then (ae2).bind fun x2 => some x2 else (aC5).bind fun x3 => (aC5).bind fun x4 => ab0 (fun s => aG6 ops s.1 s.2.1 s.2.2) (0,x3,x4)
def aw8 (n : aa1) (o : an4) : Option Bool :=
  (aq4 n).bind fun x1 => (if (!x1) then some true else (aC9 o).bind fun x3 => if (!x3) then some true else (ar2 n).bind fun x5 => some (!x5)).bind fun t6 => if t6 then (ae2).bind fun x8 => some x8 else (aB4 n o).bind fun x9 => (if x9.2.Blocked then if (!decide (x9.2.Err = 0)) then some true else if (!decide (x9.2.N = 0)) then some true else if (!decide (x9.2.Text = [])) then some true else (aw5 x9.1 n).bind fun x14 => some (!x14) else some false).bind fun t15 => if t15 then some false else (az4 n (IntKind.wrap .i64 (Int.tdiv o.Id 16))).bind fun x17 => if ((!decide (o.Kind = 3)) || ((decide (o.Id < 16)) || ((!decide ((Int.tmod o.Id 16) = 2)) || ((!x17.2) || ((!decide (x17.1.Host = o.Host)) || (!decide (x9.2.Err = 0))))))) then (ae2).bind fun x25 => some x25 else (if (decide (x17.1.State = 3)) then if (decide (x9.2.Blocked = (decide (x17.1.Data = [])))) then (ae2).bind fun x28 => some x28 else some false else if (decide (x9.2.Blocked = false)) then (ae2).bind fun x30 => some x30 else some false).bind fun t31 => some t31
def aG7 : Option Bool :=
  (ae2).bind fun x46 => some x46
def aG8 (n : aa1) (o : an4) (x9 : (aa1 × ad9)) (v27 : Int) : Option (Step Int Bool) :=
  if (decide (v27 < (List.length n.Talks : Int))) then (aa9 n.Talks v27).bind fun x30 => (az4 n x30.Peer).bind fun x31 => if ((decide (x30.Host = o.Host)) || (bif (!decide (x30.Peer = 0)) then ((decide (x31.1.Host = o.Host)) || ((decide (x30.State = 2)) && ((decide (o.Kind = 1)) || (decide (o.Kind = 4))))) else ((decide (x30.State = 2)) && ((decide (o.Kind = 1)) || (decide (o.Kind = 4)))))) then some (.cont (IntKind.wrap .i64 (v27 + 1))) else (az4 x9.1 x30.Id).bind fun x41 => (if (!x41.2) then some true else (as3 x30 x41.1).bind fun x43 => some (!x43)).bind fun t44 => if t44 then some (.done false) else some (.cont (IntKind.wrap .i64 (v27 + 1))) else (aG7).map .done
def aU6 (n : aa1) (o : an4) : Option Bool :=
  (aq4 n).bind fun x1 => (if (!x1) then some true else (aC9 o).bind fun x3 => if (!x3) then some true else (ar2 n).bind fun x5 => some (!x5)).bind fun t6 => if t6 then (ae2).bind fun x8 => some x8 else (aB4 n o).bind fun x9 => ab0 (fun s => aG8 n o x9 s) 0
def aQ2 (f : aa5) (part : Int) (out : (List aa5)) : Option (Step (Int × (List aa5)) (List aa5)) :=
  if (decide (part ≤ 6)) then (ar7 24 out [(aa5.mk (IntKind.wrap .i64 (f.id + part)) f.at_ part)]).bind fun x7 => some (.cont ((IntKind.wrap .i64 (part + 1)),x7)) else some (.done out)
def aM8 (n : aa1) (host : Str) (v13 : Int) (out_1 : (List aa5)) : Option (Step (Int × (List aa5)) (List aa5)) :=
  if (decide (v13 < (List.length n.Talks : Int))) then (aa9 n.Talks v13).bind fun x17 => if (decide (x17.Host = host)) then (ar7 24 out_1 [(aa5.mk (IntKind.wrap .i64 (16 * x17.Id)) v13 0)]).bind fun x19 => some (.cont ((IntKind.wrap .i64 (v13 + 1)),x19)) else some (.cont ((IntKind.wrap .i64 (v13 + 1)),out_1)) else some (.done out_1)
def aN8 (n : aa1) (host : Str) (f : aa5) : Option (List aa5) :=
  if (!decide (f.id = 1)) then ab0 (fun s => aQ2 f s.1 s.2) (1,([] : List aa5)) else (ar7 24 ([] : List aa5) [(aa5.mk 3 (-1) 0)]).bind fun x8 => ab0 (fun s => aM8 n host s.1 s.2) (0,x8)
def a33 (id : Int) (name : Str) (x6 : (List aa5)) (v11 : Int) : Option (Step Int (Int × Int)) :=
  if (decide (v11 < (List.length x6 : Int))) then (aa9 x6 v11).bind fun x14 => (at9 x14).bind fun x15 => if (decide (x15 = name)) then some (.done (x14.id,0)) else some (.cont (IntKind.wrap .i64 (v11 + 1))) else some (.done (0,8))
def bt6 (n : aa1) (host : Str) (id : Int) (name : Str) : Option (Int × Int) :=
  (ab7 n host id).bind fun x1 => if (!x1.2) then some (0,8) else (ab5 x1.1).bind fun x3 => if (!x3) then some (0,9) else if (decide (name = [46,46])) then some (1,0) else (aN8 n host x1.1).bind fun x6 => ab0 (fun s => a33 id name x6 s) 0
def a56 (k : Int) : Option Str :=
  if (decide (k = 1)) then some [99,116,108] else if (decide (k = 2)) then some [100,97,116,97] else if (decide (k = 3)) then some [108,105,115,116,101,110] else if (decide (k = 4)) then some [115,116,97,116,117,115] else if (decide (k = 5)) then some [108,111,99,97,108] else some [114,101,109,111,116,101]
def a34 (n : aa1) (host : Str) (id : Int) (name : Str) (i : Int) : Option (Step Int (Int × Int)) :=
  if ((decide (i < (List.length n.Talks : Int))) && (decide (id = 1))) then (aa9 n.Talks i).bind fun x34 => (if (decide (x34.Host = host)) then (aa9 n.Talks i).bind fun x36 => (aD3 x36.Id 10).bind fun x37 => some (decide (x37 = name)) else some false).bind fun t38 => if t38 then (aa9 n.Talks i).bind fun x40 => some (.done ((IntKind.wrap .i64 (16 * x40.Id)),0)) else some (.cont (IntKind.wrap .i64 (i + 1))) else some (.done (0,8))
def a35 (n : aa1) (host : Str) (id : Int) (name : Str) (k : Int) : Option (Step Int (Int × Int)) :=
  if ((decide (k ≤ 6)) && (decide (1 < id))) then (a56 k).bind fun x17 => if (decide (x17 = name)) then some (.done ((IntKind.wrap .i64 (id + k)),0)) else some (.cont (IntKind.wrap .i64 (k + 1))) else (ab0 (fun s => a34 n host id name s) 0).map .done
def bt7 (n : aa1) (host : Str) (id : Int) (name : Str) : Option (Int × Int) :=
  (ab8 n host id).bind fun x1 => if (!x1) then some (0,8) else (ab4 id).bind fun x3 => if (!x3) then some (0,9) else if (decide (name = [46,46])) then some (1,0) else if ((decide (id = 1)) && (decide (name = [99,108,111,110,101]))) then some (3,0) else ab0 (fun s => a35 n host id name s) 1
def bc6 (n : aa1) (host : Str) (id : Int) : Option (ab3 × Int) :=
  (ab7 n host id).bind fun x1 => if (!x1.2) then some ((ab3.mk 0 0 (aJ4.mk 0 0 0) 0 0 0 0 [] [] [] []),8) else (aq5 n x1.1).bind fun x3 => some (x3,0)
def aT4 (n : aa1) (id : Int) (x3 : Int) (p5 : Int) (p7 : Str) : Option (ab3 × Int) :=
  (am4 n (IntKind.wrap .i64 (Int.tdiv id 16))).bind fun x8 => (aa9 n.Talks x8).bind fun x9 => some ((ab3.mk 7 0 (aJ4.mk p5 0 id) x3 0 0 0 p7 x9.Owner x9.Owner []),0)
def aT5 (n : aa1) (id : Int) (x3 : Int) (p5 : Int) : Option (ab3 × Int) :=
  if (decide (id = 1)) then some ((ab3.mk 7 0 (aJ4.mk p5 0 id) x3 0 0 0 [47] [] [] []),0) else if (decide (id = 3)) then some ((ab3.mk 7 0 (aJ4.mk p5 0 id) x3 0 0 0 [99,108,111,110,101] [] [] []),0) else (ab4 id).bind fun x12 => if x12 then (aD3 (IntKind.wrap .i64 (Int.tdiv id 16)) 10).bind fun x14 => aT4 n id x3 p5 x14 else (a56 (Int.tmod id 16)).bind fun x15 => aT4 n id x3 p5 x15
def a14 (n : aa1) (host : Str) (id : Int) : Option (ab3 × Int) :=
  (ab8 n host id).bind fun x1 => if (!x1) then some ((ab3.mk 0 0 (aJ4.mk 0 0 0) 0 0 0 0 [] [] [] []),8) else (aD5 id).bind fun x3 => (ab4 id).bind fun x16 => if x16 then aT5 n id x3 128 else aT5 n id x3 0
def a36 (n : aa1) (x5 : (List aa5)) (v10 : Int) (out : (List ab3)) : Option (Step (Int × (List ab3)) ((List ab3) × Int)) :=
  if (decide (v10 < (List.length x5 : Int))) then (aa9 x5 v10).bind fun x14 => (aq5 n x14).bind fun x15 => (ar7 136 out [x15]).bind fun x16 => some (.cont ((IntKind.wrap .i64 (v10 + 1)),x16)) else some (.done (out,0))
def bc7 (n : aa1) (host : Str) (id : Int) : Option ((List ab3) × Int) :=
  (ab7 n host id).bind fun x1 => if (!x1.2) then some (([] : List ab3),8) else (ab5 x1.1).bind fun x3 => if (!x3) then some (([] : List ab3),9) else (aN8 n host x1.1).bind fun x5 => ab0 (fun s => a36 n x5 s.1 s.2) (0,([] : List ab3))
def a38 (n : aa1) (host : Str) (ids_1 : (List Int)) (v37 : Int) (out : (List ab3)) : Option (Step (Int × (List ab3)) ((List ab3) × Int)) :=
  if (decide (v37 < (List.length ids_1 : Int))) then (aa9 ids_1 v37).bind fun x41 => (a14 n host x41).bind fun x42 => (ar7 136 out [x42.1]).bind fun x43 => some (.cont ((IntKind.wrap .i64 (v37 + 1)),x43)) else some (.done (out,0))
def a39 (n : aa1) (host : Str) (id : Int) (k : Int) (ids_1 : (List Int)) : Option (Step (Int × (List Int)) ((List ab3) × Int)) :=
  if ((decide (k ≤ 6)) && (decide (1 < id))) then (ar7 8 ids_1 [(IntKind.wrap .i64 (id + k))]).bind fun x32 => some (.cont ((IntKind.wrap .i64 (k + 1)),x32)) else (ab0 (fun s => a38 n host ids_1 s.1 s.2) (0,([] : List ab3))).map .done
def a40 (n : aa1) (host : Str) (id : Int) (i : Int) (ids : (List Int)) : Option (Step (Int × (List Int)) ((List ab3) × Int)) :=
  if ((decide (i < (List.length n.Talks : Int))) && (decide (id = 1))) then (aa9 n.Talks i).bind fun x20 => if (decide (x20.Host = host)) then (aa9 n.Talks i).bind fun x22 => (ar7 8 ids [(IntKind.wrap .i64 (16 * x22.Id))]).bind fun x23 => some (.cont ((IntKind.wrap .i64 (i + 1)),x23)) else some (.cont ((IntKind.wrap .i64 (i + 1)),ids)) else (ab0 (fun s => a39 n host id s.1 s.2) (1,ids)).map .done
def aT6 (n : aa1) (host : Str) (id : Int) (p6 : (List Int)) : Option ((List ab3) × Int) :=
  ab0 (fun s => a40 n host id s.1 s.2) (0,p6)
def bc8 (n : aa1) (host : Str) (id : Int) : Option ((List ab3) × Int) :=
  (ab8 n host id).bind fun x1 => if (!x1) then some (([] : List ab3),8) else (ab4 id).bind fun x3 => if (!x3) then some (([] : List ab3),9) else if (decide (id = 1)) then (ar7 8 ([] : List Int) [3]).bind fun x45 => aT6 n host id x45 else aT6 n host id ([] : List Int)
def a99 (a : (List ab3)) (b : (List ab3)) (v6 : Int) : Option (Step Int Bool) :=
  if (decide (v6 < (List.length a : Int))) then (aa9 a v6).bind fun x9 => (aa9 b v6).bind fun x10 => if (!(decide (x9.Type_ = x10.Type_) && (decide (x9.Dev = x10.Dev) && (decide (x9.Qid.Type_ = x10.Qid.Type_) && (decide (x9.Qid.Vers = x10.Qid.Vers) && (decide (x9.Qid.Path = x10.Qid.Path) && (decide (x9.Mode = x10.Mode) && (decide (x9.Atime = x10.Atime) && (decide (x9.Mtime = x10.Mtime) && (decide (x9.Length = x10.Length) && (decide (x9.Name = x10.Name) && (decide (x9.Uid = x10.Uid) && (decide (x9.Gid = x10.Gid) && (decide (x9.Muid = x10.Muid) && true)))))))))))))) then some (.done false) else some (.cont (IntKind.wrap .i64 (v6 + 1))) else some (.done true)
def bc9 (a : (List ab3)) (b : (List ab3)) : Option Bool :=
  if (!decide ((List.length a : Int) = (List.length b : Int))) then some false else ab0 (fun s => a99 a b s) 0
def aU7 (n : aa1) (host : Str) (id : Int) (name : Str) : Option Bool :=
  (aq4 n).bind fun x1 => (if (!x1) then some true else if (decide (200 < (List.length host : Int))) then some true else if (decide (2000 < (List.length name : Int))) then some true else (ar2 n).bind fun x5 => some (!x5)).bind fun t6 => if t6 then (ae2).bind fun x8 => some x8 else (bt6 n host id name).bind fun x9 => (bt7 n host id name).bind fun x10 => if ((!decide (x9.1 = x10.1)) || (!decide (x9.2 = x10.2))) then some false else (bc6 n host id).bind fun x14 => (a14 n host id).bind fun x15 => if ((!(decide (x14.1.Type_ = x15.1.Type_) && (decide (x14.1.Dev = x15.1.Dev) && (decide (x14.1.Qid.Type_ = x15.1.Qid.Type_) && (decide (x14.1.Qid.Vers = x15.1.Qid.Vers) && (decide (x14.1.Qid.Path = x15.1.Qid.Path) && (decide (x14.1.Mode = x15.1.Mode) && (decide (x14.1.Atime = x15.1.Atime) && (decide (x14.1.Mtime = x15.1.Mtime) && (decide (x14.1.Length = x15.1.Length) && (decide (x14.1.Name = x15.1.Name) && (decide (x14.1.Uid = x15.1.Uid) && (decide (x14.1.Gid = x15.1.Gid) && (decide (x14.1.Muid = x15.1.Muid) && true)))))))))))))) || (!decide (x14.2 = x15.2))) then some false else (bc7 n host id).bind fun x19 => (bc8 n host id).bind fun x20 => (if (decide (x19.2 = x20.2)) then (bc9 x19.1 x20.1).bind fun x22 => if x22 then (ae2).bind fun x24 => some x24 else some false else some false).bind fun t25 => some t25
end
end Go.Proofs.YtofpfpkjdigabaaGreatDoor
