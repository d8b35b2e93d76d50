import Derived.Test.YtiliognepodhnaaGreatDoorVmX
import Derived.Test.YtiliognepodhnaaGreatDoorVmB
import Derived.Test.YtiliognepodhnaaGreatDoorVmI
namespace Go.Proofs.YtiliognepodhnaaGreatDoor
open Go.Vm
set_option autoImplicit false
set_option linter.unusedVariables false
set_option linter.unusedSimpArgs false
set_option maxRecDepth 100000
noncomputable section
abbrev Str := List UInt8
structure aa1 where
  Name : Str
  Value : Str
  Query : Bool
  deriving Inhabited
def zE1 (x : aa1) : PV := .agg [.str x.Name,.str x.Value,.bool x.Query]
structure aa3 where
  Id : Int
  Proto : Str
  Role : Int
  Phase : Int
  Step : Int
  Key : (List aa1)
  Own : Str
  Peer : Str
  User : Str
  Err : Int
  deriving Inhabited
def zE2 (x : aa3) : PV := .agg [.int .i64 x.Id,.str x.Proto,.int .i64 x.Role,.int .i64 x.Phase,.int .i64 x.Step,.sl (some 3) (List.map zE1 x.Key),.str x.Own,.str x.Peer,.str x.User,.int .i64 x.Err]
structure aa2 where
  Owner : Str
  Seed : Str
  Keys : (List (List aa1))
  Next : Int
  Convs : (List aa3)
  Count : Int
  deriving Inhabited
def aa0 (x : (List aa1)) : PV := .sl (some 3) (List.map zE1 x)
def zE3 (x : aa2) : PV := .agg [.str x.Owner,.str x.Seed,.sl none (List.map aa0 x.Keys),.int .i64 x.Next,.sl (some 10) (List.map zE2 x.Convs),.int .i64 x.Count]
structure a66 where
  Kind : Int
  Id : Int
  User : Str
  Mode : Int
  Text : Str
  deriving Inhabited
def zE4 (x : a66) : PV := .agg [.int .i64 x.Kind,.int .i64 x.Id,.str x.User,.int .i64 x.Mode,.str x.Text]
structure aa4 where
  Conv : aa3
  deriving Inhabited
def zE5 (x : aa4) : PV := .agg [.int .i64 x.Conv.Id,.str x.Conv.Proto,.int .i64 x.Conv.Role,.int .i64 x.Conv.Phase,.int .i64 x.Conv.Step,.sl (some 3) (List.map zE1 x.Conv.Key),.str x.Conv.Own,.str x.Conv.Peer,.str x.Conv.User,.int .i64 x.Conv.Err]
structure aE8 where
  Id : Int
  Name : Str
  Offset : Int
  Count : Int
  Pattern : (List aa1)
  deriving Inhabited
def zE6 (x : aE8) : PV := .agg [.int .i64 x.Id,.str x.Name,.int .i64 x.Offset,.int .i64 x.Count,.sl (some 3) (List.map zE1 x.Pattern)]
structure a33 where
  Type_ : Int
  Vers : Int
  Path : Int
  deriving Inhabited
structure ae0 where
  Type_ : Int
  Dev : Int
  Qid : a33
  Mode : Int
  Atime : Int
  Mtime : Int
  Length : Int
  Name : Str
  Uid : Str
  Gid : Str
  Muid : Str
  deriving Inhabited
def zE8 (x : ae0) : PV := .agg [.int .i64 x.Type_,.int .i64 x.Dev,.int .i64 x.Qid.Type_,.int .i64 x.Qid.Vers,.int .i64 x.Qid.Path,.int .i64 x.Mode,.int .i64 x.Atime,.int .i64 x.Mtime,.int .i64 x.Length,.str x.Name,.str x.Uid,.str x.Gid,.str x.Muid]
def aZ7 (l : (List aa1)) (n : Int) (v5 : Int) : Option (Step (Int × Int) Bool) :=
  if (decide (v5 < (List.length l : Int))) then (ad9 l v5).bind fun x8 => (ad9 l v5).bind fun x9 => some (.cont ((IntKind.wrap .i64 (n + (IntKind.wrap .i64 ((min (List.length x8.Name : Int) 10000) + (min (List.length x9.Value : Int) 10000))))),(IntKind.wrap .i64 (v5 + 1)))) else some (.done ((decide ((List.length l : Int) ≤ 40)) && (decide (n ≤ 5000))))
def aM4 (l : (List aa1)) : Option Bool :=
  aa8 (fun s => aZ7 l s.1 s.2) (0,0)
def aR8 (a : aa2) (v22 : Int) : Option (Step Int Bool) :=
  if (decide (v22 < (List.length a.Convs : Int))) then (ad9 a.Convs v22).bind fun x25 => (aM4 x25.Key).bind fun x26 => if ((!x26) || (decide (1000 < (IntKind.wrap .i64 ((IntKind.wrap .i64 ((IntKind.wrap .i64 ((List.length x25.Proto : Int) + (List.length x25.Own : Int))) + (List.length x25.Peer : Int))) + (List.length x25.User : Int)))))) then some (.done false) else some (.cont (IntKind.wrap .i64 (v22 + 1))) else some (.done true)
def aR9 (a : aa2) (v10 : Int) : Option (Step Int Bool) :=
  if (decide (v10 < (List.length a.Keys : Int))) then (ad9 a.Keys v10).bind fun x13 => (aM4 x13).bind fun x14 => if (!x14) then some (.done false) else some (.cont (IntKind.wrap .i64 (v10 + 1))) else (aa8 (fun s => aR8 a s) 0).map .done
def aE9 (a : aa2) : Option Bool :=
  if ((decide (1000 < (List.length a.Owner : Int))) || ((decide (2000 < (List.length a.Seed : Int))) || ((decide (70 < (List.length a.Keys : Int))) || (decide (40 < (List.length a.Convs : Int)))))) then some false else aa8 (fun s => aR9 a s) 0
def a67 (owner : Str) (seed : Str) : Option (aa2 × Int) :=
  if ((decide (owner = [])) || (decide (32 < (List.length owner : Int)))) then some ((aa2.mk [] [] ([] : List (List aa1)) 0 ([] : List aa3) 0),25) else if (decide (1024 < (List.length seed : Int))) then some ((aa2.mk [] [] ([] : List (List aa1)) 0 ([] : List aa3) 0),4) else some ((aa2.mk owner seed ([] : List (List aa1)) 1 ([] : List aa3) 0),0)
def aS0 (name : Str) : Option Bool :=
  (if (decide (0 < (List.length name : Int))) then (ah3 name 0).bind fun c2 => some (decide ((c2.toNat : Int) = 33)) else some false).bind fun t3 => some t3
def aZ8 (p2 : Str) (i : Int) : Option (Step Int Bool) :=
  if (decide (i < (List.length p2 : Int))) then (ah3 p2 i).bind fun c14 => (if (decide (97 ≤ (c14.toNat : Int))) then (ah3 p2 i).bind fun c16 => some (decide ((c16.toNat : Int) ≤ 122)) else some false).bind fun t17 => (if (!t17) then if (decide (i = 0)) then some true else (ah3 p2 i).bind fun c20 => if (decide (48 ≤ (c20.toNat : Int))) then (ah3 p2 i).bind fun c22 => if (decide ((c22.toNat : Int) ≤ 57)) then some false else (ah3 p2 i).bind fun c24 => if (decide ((c24.toNat : Int) = 45)) then some false else (ah3 p2 i).bind fun c26 => some (!(decide ((c26.toNat : Int) = 95))) else (ah3 p2 i).bind fun c27 => if (decide ((c27.toNat : Int) = 45)) then some false else (ah3 p2 i).bind fun c29 => some (!(decide ((c29.toNat : Int) = 95))) else some false).bind fun t30 => if t30 then some (.done false) else some (.cont (IntKind.wrap .i64 (i + 1))) else some (.done ((decide (1 ≤ (List.length p2 : Int))) && (decide ((List.length p2 : Int) ≤ 32))))
def aM5 (p2 : Str) : Option Bool :=
  aa8 (fun s => aZ8 p2 s) 0
def bw2 (s_ : Str) : Option Bool :=
  (aS0 s_).bind fun x34 => if x34 then (cut s_ 1 (List.length s_ : Int)).bind fun x36 => aM5 x36 else aM5 s_
def aS1 (s_ : Str) (i : Int) : Option (Step Int Bool) :=
  if (decide (i < (List.length s_ : Int))) then (ah3 s_ i).bind fun c12 => (if (decide ((c12.toNat : Int) = 0)) then some true else (ah3 s_ i).bind fun c14 => if (decide ((c14.toNat : Int) = 10)) then some true else (ah3 s_ i).bind fun c16 => some (decide ((c16.toNat : Int) = 13))).bind fun t17 => if t17 then some (.done false) else some (.cont (IntKind.wrap .i64 (i + 1))) else some (.done true)
def a34 (s_ : Str) : Option Bool :=
  aa8 (fun s => aS1 s_ s) 0
def a68 (before : (List aa1)) (a : aa1) (i : Int) : Option (Step Int Int) :=
  if (decide (i < (List.length before : Int))) then (ad9 before i).bind fun x17 => if (decide (x17.Name = a.Name)) then some (.done 7) else some (.cont (IntKind.wrap .i64 (i + 1))) else some (.done 0)
def bn9 (before : (List aa1)) (a : aa1) : Option Int :=
  if (decide (32 ≤ (List.length before : Int))) then some 22 else (bw2 a.Name).bind fun x2 => if (!x2) then some 6 else (if a.Query then if (!decide (a.Value = [])) then some true else (a34 a.Value).bind fun x6 => some (!x6) else (a34 a.Value).bind fun x7 => some (!x7)).bind fun t8 => if t8 then some 2 else if (decide (1024 < (List.length a.Value : Int))) then some 4 else aa8 (fun s => a68 before a s) 0
def aZ9 (l : (List aa1)) (i : Int) : Option (Step Int Int) :=
  if (decide (i < (List.length l : Int))) then (cut l 0 i).bind fun x9 => (ad9 l i).bind fun x10 => (bn9 x9 x10).bind fun x11 => if (!decide (x11 = 0)) then some (.done x11) else some (.cont (IntKind.wrap .i64 (i + 1))) else some (.done 0)
def aM6 (l : (List aa1)) : Option Int :=
  aa8 (fun s => aZ9 l s) 0
def a69 (l : (List aa1)) (name : Str) (i : Int) : Option (Step Int (Str × Bool)) :=
  if (decide (i < (List.length l : Int))) then (ad9 l i).bind fun x11 => (if (decide (x11.Name = name)) then (ad9 l i).bind fun x13 => some (!x13.Query) else some false).bind fun t14 => if t14 then (ad9 l i).bind fun x16 => some (.done (x16.Value,true)) else some (.cont (IntKind.wrap .i64 (i + 1))) else some (.done ([],false))
def aD4 (l : (List aa1)) (name : Str) : Option (Str × Bool) :=
  aa8 (fun s => a69 l name s) 0
def aD5 (l : (List aa1)) (name : Str) : Option Str :=
  (aD4 l name).bind fun x1 => some x1.1
def aS2 (l : (List aa1)) : Option Bool :=
  (aD5 l [117,115,101,114]).bind fun x11 => (aD5 l [33,115,101,99,114,101,116]).bind fun x12 => some ((decide (1 ≤ (List.length x11 : Int))) && ((decide ((List.length x11 : Int) ≤ 32)) && ((decide (1 ≤ (List.length x12 : Int))) && (decide ((List.length x12 : Int) ≤ 64)))))
def a00 (l : (List aa1)) (i : Int) : Option (Step Int Bool) :=
  if (decide (i < (List.length l : Int))) then (ad9 l i).bind fun x9 => if x9.Query then some (.done false) else some (.cont (IntKind.wrap .i64 (i + 1))) else (aS2 l).map .done
def aM7 (l : (List aa1)) : Option Bool :=
  (aM6 l).bind fun x1 => if (!decide (x1 = 0)) then some false else aa8 (fun s => a00 l s) 0
def aS3 (l : (List aa1)) (i : Int) (out : (List aa1)) : Option (Step (Int × (List aa1)) (List aa1)) :=
  if (decide (i < (List.length l : Int))) then (ad9 l i).bind fun x11 => (aS0 x11.Name).bind fun x12 => if (!x12) then (ad9 l i).bind fun x14 => (aC2 40 out [x14]).bind fun x15 => some (.cont ((IntKind.wrap .i64 (i + 1)),x15)) else some (.cont ((IntKind.wrap .i64 (i + 1)),out)) else some (.done out)
def aA2 (l : (List aa1)) : Option (List aa1) :=
  aa8 (fun s => aS3 l s.1 s.2) (0,([] : List aa1))
def aC5 (a : (List aa1)) (b : (List aa1)) (i : Int) : Option (Step Int Bool) :=
  if (decide (i < (List.length a : Int))) then (ad9 a i).bind fun x9 => (ad9 b i).bind fun x10 => if (!(decide (x9.Name = x10.Name) && (decide (x9.Value = x10.Value) && (decide (x9.Query = x10.Query) && true)))) then some (.done false) else some (.cont (IntKind.wrap .i64 (i + 1))) else some (.done true)
def au2 (a : (List aa1)) (b : (List aa1)) : Option Bool :=
  if (!decide ((List.length a : Int) = (List.length b : Int))) then some false else aa8 (fun s => aC5 a b s) 0
def a01 (l : (List (List aa1))) (public_ : (List aa1)) (i : Int) : Option (Step Int Int) :=
  if (decide (i < (List.length l : Int))) then (ad9 l i).bind fun x9 => (aA2 x9).bind fun x10 => (au2 x10 public_).bind fun x11 => if x11 then some (.done i) else some (.cont (IntKind.wrap .i64 (i + 1))) else some (.done (-1))
def aM8 (l : (List (List aa1))) (public_ : (List aa1)) : Option Int :=
  aa8 (fun s => a01 l public_ s) 0
def at2 (a : aa3) (b : aa3) : Option Bool :=
  (if (decide (a.Id = b.Id)) then if (decide (a.Proto = b.Proto)) then if (decide (a.Role = b.Role)) then if (decide (a.Phase = b.Phase)) then if (decide (a.Step = b.Step)) then (au2 a.Key b.Key).bind fun x6 => if x6 then if (decide (a.Own = b.Own)) then if (decide (a.Peer = b.Peer)) then if (decide (a.User = b.User)) then some (decide (a.Err = b.Err)) else some false else some false else some false else some false else some false else some false else some false else some false else some false).bind fun t11 => some t11
def aF0 (c : aa3) : Option Bool :=
  (at2 c (aa3.mk c.Id [] 0 0 0 [] [] [] [] 0)).bind fun x1 => some x1
def ax5 (proto : Str) (p2 : Bool) : Option Int :=
  if p2 then some 3 else if (decide (proto = [112,108,97,105,110])) then some 2 else some 0
def aq4 (proto : Str) : Option Int :=
  if (decide (proto = [99,104,97,108])) then ax5 proto (decide (proto = [99,104,97,108])) else ax5 proto (decide (proto = [109,117,116,117,97,108]))
def au3 (key : (List aa1)) : Option Str :=
  (aD4 key [117,115,101,114]).bind fun x1 => some x1.1
def aI4 (key : (List aa1)) : Option Str :=
  (aD4 key [33,115,101,99,114,101,116]).bind fun x1 => some x1.1
def az3 (key : (List aa1)) : Option Int :=
  (aM6 key).bind fun x1 => if (!decide (x1 = 0)) then some x1 else (au3 key).bind fun x3 => (aI4 key).bind fun x4 => if ((decide ((List.length x3 : Int) < 1)) || ((decide (32 < (List.length x3 : Int))) || ((decide ((List.length x4 : Int) < 1)) || (decide (64 < (List.length x4 : Int)))))) then some 52 else some 0
def ax6 (c : aa3) : Option Bool :=
  if (decide (c.Proto = [99,104,97,108])) then some ((decide (c.Role = 1)) && (decide (0 < c.Step))) else if ((decide (c.Proto = [109,117,116,117,97,108])) && (decide (c.Role = 2))) then some (decide (0 < c.Step)) else some ((decide (c.Proto = [109,117,116,117,97,108])) && (decide (1 < c.Step)))
def bo0 (proto : Str) : Option Int :=
  if (decide (proto = [99,104,97,108])) then some 2 else some 1
def a35 (c : aa3) : Option Int :=
  (aq4 c.Proto).bind fun x1 => if (decide (c.Step = x1)) then some 3 else (bo0 c.Proto).bind fun x3 => if (decide ((decide ((Int.tmod c.Step 2) = 0)) = (decide (c.Role = x3)))) then some 1 else some 2
def aF1 (c : aa3) (p30 : Int) (p31 : Int) (p33 : Str) : Option Bool :=
  some ((decide (c.Phase = p30)) && ((decide (c.User = p33)) && (decide (c.Err = p31))))
def aF2 (c : aa3) (p30 : Int) (p31 : Int) : Option Bool :=
  if (decide (p30 = 3)) then (au3 c.Key).bind fun x38 => aF1 c p30 p31 x38 else aF1 c p30 p31 []
def aM9 (c : aa3) : Option Bool :=
  (if (decide (c.Id < 0)) then some true else if (decide (1048575 < c.Id)) then some true else (aq4 c.Proto).bind fun x3 => if (decide (x3 = 0)) then some true else if (!decide (c.Role = 1)) then if (!decide (c.Role = 2)) then some true else if (!decide ((List.length c.Own : Int) = 32)) then some true else if (decide (c.Step < 0)) then some true else (aq4 c.Proto).bind fun x9 => if (decide (x9 < c.Step)) then some true else (az3 c.Key).bind fun x11 => some (!decide (x11 = 0)) else if (!decide ((List.length c.Own : Int) = 32)) then some true else if (decide (c.Step < 0)) then some true else (aq4 c.Proto).bind fun x14 => if (decide (x14 < c.Step)) then some true else (az3 c.Key).bind fun x16 => some (!decide (x16 = 0))).bind fun t17 => if t17 then some false else (ax6 c).bind fun x19 => (if x19 then if (!decide ((List.length c.Peer : Int) = 32)) then some true else (ax6 c).bind fun x22 => if (!x22) then some (!decide (c.Peer = [])) else some false else (ax6 c).bind fun x24 => if (!x24) then some (!decide (c.Peer = [])) else some false).bind fun t26 => if t26 then some false else (a35 c).bind fun x28 => if ((decide (x28 = 2)) && (decide (c.Phase = 4))) then aF2 c 4 28 else aF2 c x28 0
def aS4 (a : aa2) (i_1 : Int) : Option (Step Int Bool) :=
  if (decide (i_1 < (List.length a.Convs : Int))) then (ad9 a.Convs i_1).bind fun x43 => (if (decide (x43.Id < 1)) then some true else if (decide (a.Next ≤ x43.Id)) then some true else if (decide (0 < i_1)) then (ad9 a.Convs (IntKind.wrap .i64 (i_1 - 1))).bind fun x47 => if (decide (x43.Id ≤ x47.Id)) then some true else (aF0 x43).bind fun x49 => if (!x49) then (aM9 x43).bind fun x51 => some (!x51) else some false else (aF0 x43).bind fun x52 => if (!x52) then (aM9 x43).bind fun x54 => some (!x54) else some false).bind fun t55 => if t55 then some (.done false) else some (.cont (IntKind.wrap .i64 (i_1 + 1))) else some (.done true)
def aS5 (a : aa2) (i : Int) : Option (Step Int Bool) :=
  if (decide (i < (List.length a.Keys : Int))) then (ad9 a.Keys i).bind fun x23 => (aM7 x23).bind fun x24 => (if (!x24) then some true else (ad9 a.Keys i).bind fun x26 => (aA2 x26).bind fun x27 => (aM8 a.Keys x27).bind fun x28 => some (!decide (x28 = i))).bind fun t29 => if t29 then some (.done false) else some (.cont (IntKind.wrap .i64 (i + 1))) else (aa8 (fun s => aS4 a s) 0).map .done
def ax7 (a : aa2) : Option Bool :=
  (a67 a.Owner a.Seed).bind fun x1 => if ((!decide (x1.2 = 0)) || ((decide (64 < (List.length a.Keys : Int))) || (decide (32 < (List.length a.Convs : Int))))) then some false else if ((decide (a.Next < 1)) || ((decide (1048560 < a.Next)) || ((decide (a.Count < 0)) || (decide (9007199254740991 < a.Count))))) then some false else aa8 (fun s => aS5 a s) 0
def ao0 (owner : Str) (seed : Str) : Option (aa2 × Int) :=
  if ((decide (owner = [])) || (decide (32 < (List.length owner : Int)))) then some ((aa2.mk [] [] ([] : List (List aa1)) 0 ([] : List aa3) 0),25) else if (decide (1024 < (List.length seed : Int))) then some ((aa2.mk [] [] ([] : List (List aa1)) 0 ([] : List aa3) 0),4) else some ((aa2.mk owner seed ([] : List (List aa1)) 1 ([] : List aa3) 0),0)
def stringslite_Index (a0 : Str) (a1 : Str) : Option Int := bG4 a0 a1
def stringslite_Cut (s_ : Str) (sep : Str) : Option (Str × Str × Bool) :=
  (stringslite_Index s_ sep).bind fun x1 => if (decide (0 ≤ x1)) then (cut s_ 0 x1).bind fun x3 => (cut s_ (IntKind.wrap .i64 (x1 + (List.length sep : Int))) (List.length s_ : Int)).bind fun x4 => some (x3,x4,true) else some (s_,[],false)
def strings_Cut (s_ : Str) (sep : Str) : Option (Str × Str × Bool) :=
  (stringslite_Cut s_ sep).bind fun x1 => some (x1.1,x1.2.1,x1.2.2)
def ak6 : Option (List (List aa1)) :=
  some ([] : List (List aa1))
def ah8 : Option (List (List aa1)) :=
  (aC2 24 ([] : List (List aa1)) []).bind fun x1 => some x1
def ab0 (s_ : (List (List aa1))) : Option (List (List aa1)) :=
  (aC2 24 ([] : List (List aa1)) s_).bind fun x1 => some x1
def an1 : Option (List aa1) :=
  some ([] : List aa1)
def ai1 : Option (List aa1) :=
  (aC2 40 ([] : List aa1) []).bind fun x1 => some x1
def aa5 (s_ : (List aa1)) : Option (List aa1) :=
  (aC2 40 ([] : List aa1) s_).bind fun x1 => some x1
def an2 : Option (List aa3) :=
  some ([] : List aa3)
def ai2 : Option (List aa3) :=
  (aC2 128 ([] : List aa3) []).bind fun x1 => some x1
def ab5 (s_ : (List aa3)) : Option (List aa3) :=
  (aC2 128 ([] : List aa3) s_).bind fun x1 => some x1
def ao1 (a : aa2) (v7 : (List (List aa1))) (x13 : (List aa3)) (v18 : Int) (v19 : (List aa3)) : Option (Step (Int × (List aa3)) aa2) :=
  if (decide (v18 < (List.length x13 : Int))) then (ad9 v19 v18).bind fun x22 => (aa5 x22.Key).bind fun x23 => (ad9 v19 v18).bind fun x24 => some (.cont ((IntKind.wrap .i64 (v18 + 1)),(List.set v19 (Int.toNat v18) {x24 with Key := x23}))) else some (.done {a with Keys := v7,Convs := v19})
def aF3 (a : aa2) (v7 : (List (List aa1))) : Option aa2 :=
  (ab5 a.Convs).bind fun x13 => aa8 (fun s => ao1 a v7 x13 s.1 s.2) (0,x13)
def at3 (a : aa2) (x1 : (List (List aa1))) (v6 : Int) (v7 : (List (List aa1))) : Option (Step (Int × (List (List aa1))) aa2) :=
  if (decide (v6 < (List.length x1 : Int))) then (ad9 v7 v6).bind fun x10 => (aa5 x10).bind fun x11 => (ad9 v7 v6).bind fun x12 => some (.cont ((IntKind.wrap .i64 (v6 + 1)),(List.set v7 (Int.toNat v6) x11))) else (aF3 a v7).map .done
def af4 (a : aa2) : Option aa2 :=
  (ab0 a.Keys).bind fun x1 => aa8 (fun s => at3 a x1 s.1 s.2) (0,x1)
def aJ8 (c : Int) : Option Bool :=
  some ((decide (c = 32)) || (decide (c = 9)))
def stringslite_IndexByte (a0 : Str) (a1 : Int) : Option Int := aW7 a0 a1
def strings_IndexByte (s_ : Str) (c : Int) : Option Int :=
  (stringslite_IndexByte s_ c).bind fun x1 => some x1
def aw0 (s_ : Str) (stops : Str) (v5 : Int) : Option (Step Int Int) :=
  if (decide (v5 < (List.length s_ : Int))) then (ah3 s_ v5).bind fun c8 => (strings_IndexByte stops (c8.toNat : Int)).bind fun x9 => if (decide (0 ≤ x9)) then some (.done v5) else some (.cont (IntKind.wrap .i64 (v5 + 1))) else some (.done (List.length s_ : Int))
def aq5 (s_ : Str) (stops : Str) : Option Int :=
  aa8 (fun s => aw0 s_ stops s) 0
def stringslite_HasPrefix (s_ : Str) (prefix_ : Str) : Option Bool :=
  (if (decide ((List.length prefix_ : Int) ≤ (List.length s_ : Int))) then (cut s_ 0 (List.length prefix_ : Int)).bind fun x2 => some (decide (x2 = prefix_)) else some false).bind fun t3 => some t3
def strings_HasPrefix (s_ : Str) (prefix_ : Str) : Option Bool :=
  (stringslite_HasPrefix s_ prefix_).bind fun x1 => some x1
def ak1 (s_ : Str) (i : Int) (v12 : Str) : Option (Step (Int × Str) (Str × Int × Bool)) :=
  if (decide (i < (List.length s_ : Int))) then (ah3 s_ i).bind fun c15 => if (!decide ((c15.toNat : Int) = 39)) then (ah3 s_ i).bind fun c17 => (bAdd v12 [c17]).bind fun x18 => some (.cont ((IntKind.wrap .i64 (i + 1)),x18)) else (if (decide ((IntKind.wrap .i64 (i + 1)) = (List.length s_ : Int))) then some true else (ah3 s_ (IntKind.wrap .i64 (i + 1))).bind fun c20 => some (!decide ((c20.toNat : Int) = 39))).bind fun t21 => if t21 then some (.done (v12,(IntKind.wrap .i64 (i + 1)),true)) else (bAdd v12 [(39 : UInt8)]).bind fun x23 => some (.cont ((IntKind.wrap .i64 ((IntKind.wrap .i64 (i + 1)) + 1)),x23)) else some (.done ([],0,false))
def aN0 (s_ : Str) : Option (Str × Int × Bool) :=
  aa8 (fun s => ak1 s_ s.1 s.2) (0,([] : Str))
def strings_Index (a0 : Str) (a1 : Str) : Option Int := bG4 a0 a1
def strings_Contains (s_ : Str) (substr : Str) : Option Bool :=
  (strings_Index s_ substr).bind fun x1 => some (decide (0 ≤ x1))
def ax8 (s_ : Str) (x2 : Str) (p5 : Int) (p6 : Str) (p7 : Bool) : Option (aa1 × Int × Int) :=
  (if (decide (p5 < (List.length s_ : Int))) then (ah3 s_ p5).bind fun c9 => (aJ8 (c9.toNat : Int)).bind fun x10 => some (!x10) else some false).bind fun t11 => if t11 then some ((aa1.mk [] [] false),0,2) else some ((aa1.mk x2 p6 p7),p5,0)
def bi6 (s_ : Str) : Option (aa1 × Int × Int) :=
  (aq5 s_ [32,9,61,63,39]).bind fun x1 => (cut s_ 0 x1).bind fun x2 => (cut s_ x1 (List.length s_ : Int)).bind fun x3 => (strings_HasPrefix x3 [63]).bind fun x13 => if x13 then ax8 s_ x2 (IntKind.wrap .i64 (x1 + 1)) [] true else (strings_HasPrefix x3 [61,39]).bind fun x15 => if x15 then (cut x3 2 (List.length x3 : Int)).bind fun x17 => (aN0 x17).bind fun x18 => if (!x18.2.2) then some ((aa1.mk [] [] false),0,48) else ax8 s_ x2 (IntKind.wrap .i64 (x1 + (IntKind.wrap .i64 (2 + x18.2.1)))) x18.1 false else (strings_HasPrefix x3 [61]).bind fun x20 => if x20 then (aq5 x3 [32,9]).bind fun x22 => (cut x3 1 x22).bind fun x23 => (strings_Contains x23 [39]).bind fun x24 => if x24 then some ((aa1.mk [] [] false),0,2) else ax8 s_ x2 (IntKind.wrap .i64 (x1 + x22)) x23 false else some ((aa1.mk [] [] false),0,2)
def stringslite_TrimPrefix (s_ : Str) (prefix_ : Str) : Option Str :=
  (stringslite_HasPrefix s_ prefix_).bind fun x1 => if x1 then (cut s_ (List.length prefix_ : Int) (List.length s_ : Int)).bind fun x3 => some x3 else some s_
def strings_TrimPrefix (s_ : Str) (prefix_ : Str) : Option Str :=
  (stringslite_TrimPrefix s_ prefix_).bind fun x1 => some x1
def ao2 (x1 : Str) (v23 : Int) : Option (Step Int Bool) :=
  if (decide (v23 < (List.length x1 : Int))) then (ah3 x1 v23).bind fun c26 => if (bif (decide ((c26.toNat : Int) < 97)) then (bif (decide ((c26.toNat : Int) < 48)) then ((!decide ((c26.toNat : Int) = 45)) && (!decide ((c26.toNat : Int) = 95))) else ((decide (57 < (c26.toNat : Int))) && ((!decide ((c26.toNat : Int) = 45)) && (!decide ((c26.toNat : Int) = 95))))) else ((decide (122 < (c26.toNat : Int))) && (bif (decide ((c26.toNat : Int) < 48)) then ((!decide ((c26.toNat : Int) = 45)) && (!decide ((c26.toNat : Int) = 95))) else ((decide (57 < (c26.toNat : Int))) && ((!decide ((c26.toNat : Int) = 45)) && (!decide ((c26.toNat : Int) = 95))))))) then some (.done false) else some (.cont (IntKind.wrap .i64 (v23 + 1))) else some (.done true)
def aN1 (s_ : Str) : Option Bool :=
  (strings_TrimPrefix s_ [33]).bind fun x1 => (if (decide (x1 = [])) then some true else if (decide (32 < (List.length x1 : Int))) then some true else (ah3 x1 0).bind fun c4 => if (decide ((c4.toNat : Int) < 97)) then some true else (ah3 x1 0).bind fun c6 => some (decide (122 < (c6.toNat : Int)))).bind fun t7 => if t7 then some false else aa8 (fun s => ao2 x1 s) 0
def aS6 (b : aa1) (a1 : aa1) : Option Bool :=
  some (decide (b.Name = a1.Name))
def ab8 (s_ : (List aa1)) (f : aa1) (v5 : Int) : Option (Step Int Int) :=
  if (decide (v5 < (List.length s_ : Int))) then (ad9 s_ v5).bind fun x8 => (aS6 x8 f).bind fun x9 => if x9 then some (.done v5) else some (.cont (IntKind.wrap .i64 (v5 + 1))) else some (.done (-1))
def ad5 (s_ : (List aa1)) (f : aa1) : Option Int :=
  aa8 (fun s => ab8 s_ f s) 0
def ab9 (s_ : (List aa1)) (f : aa1) : Option Bool :=
  (ad5 s_ f).bind fun x1 => some (decide (0 ≤ x1))
def aD6 (before : (List aa1)) (a : aa1) : Option Int :=
  if (decide (32 ≤ (List.length before : Int))) then some 22 else (aN1 a.Name).bind fun x2 => if (!x2) then some 6 else if (a.Query && (!decide (a.Value = []))) then some 2 else (aq5 a.Value [0,10,13]).bind fun x7 => if (decide (x7 < (List.length a.Value : Int))) then some 2 else if (decide (1024 < (List.length a.Value : Int))) then some 4 else (ab9 before a).bind fun x10 => if x10 then some 7 else some 0
def at4 (i : Int) (out : (List aa1)) (x21 : (aa1 × Int × Int)) (p23 : Int) : Option (Step (Int × (List aa1)) ((List aa1) × Int × Int)) :=
  if (!decide (p23 = 0)) then some (.done (([] : List aa1),i,p23)) else (aC2 40 out [x21.1]).bind fun x25 => some (.cont ((IntKind.wrap .i64 (i + x21.2.1)),x25))
def at5 (s_ : Str) (i : Int) (out : (List aa1)) : Option (Step (Int × (List aa1)) ((List aa1) × Int × Int)) :=
  if (decide (i < (List.length s_ : Int))) then (ah3 s_ i).bind fun c17 => (aJ8 (c17.toNat : Int)).bind fun x18 => if x18 then some (.cont ((IntKind.wrap .i64 (i + 1)),out)) else (cut s_ i (List.length s_ : Int)).bind fun x20 => (bi6 x20).bind fun x21 => if (decide (x21.2.2 = 0)) then (aD6 out x21.1).bind fun x27 => at4 i out x21 x27 else at4 i out x21 x21.2.2 else some (.done (out,0,0))
def ax9 (s_ : Str) : Option ((List aa1) × Int × Int) :=
  aa8 (fun s => at5 s_ s.1 s.2) (0,([] : List aa1))
def aw1 (l : (List aa1)) (v6 : Int) : Option (Step Int Int) :=
  if (decide (v6 < (List.length l : Int))) then (ad9 l v6).bind fun x9 => (cut l 0 v6).bind fun x10 => (aD6 x10 x9).bind fun x11 => if (!decide (x11 = 0)) then some (.done x11) else some (.cont (IntKind.wrap .i64 (v6 + 1))) else some (.done 0)
def ay0 (l : (List aa1)) : Option Int :=
  aa8 (fun s => aw1 l s) 0
def a36 (a : aa1) : Option Bool :=
  some a.Query
def ac0 (s_ : (List aa1)) (v5 : Int) : Option (Step Int Int) :=
  if (decide (v5 < (List.length s_ : Int))) then (ad9 s_ v5).bind fun x8 => (a36 x8).bind fun x9 => if x9 then some (.done v5) else some (.cont (IntKind.wrap .i64 (v5 + 1))) else some (.done (-1))
def ad6 (s_ : (List aa1)) : Option Int :=
  aa8 (fun s => ac0 s_ s) 0
def ac1 (s_ : (List aa1)) : Option Bool :=
  (ad6 s_).bind fun x1 => some (decide (0 ≤ x1))
def aS7 (a : aa1) (a1 : Str) : Option Bool :=
  some ((!a.Query) && (decide (a.Name = a1)))
def ac2 (s_ : (List aa1)) (f : Str) (v5 : Int) : Option (Step Int Int) :=
  if (decide (v5 < (List.length s_ : Int))) then (ad9 s_ v5).bind fun x8 => (aS7 x8 f).bind fun x9 => if x9 then some (.done v5) else some (.cont (IntKind.wrap .i64 (v5 + 1))) else some (.done (-1))
def ag0 (s_ : (List aa1)) (f : Str) : Option Int :=
  aa8 (fun s => ac2 s_ f s) 0
def aX0 (l : (List aa1)) (name : Str) : Option Int :=
  (ag0 l name).bind fun x1 => some x1
def ar8 (l : (List aa1)) (name : Str) : Option (Str × Bool) :=
  (aX0 l name).bind fun x1 => if (decide (x1 < 0)) then some ([],false) else (ad9 l x1).bind fun x3 => some (x3.Value,true)
def aS8 (l : (List aa1)) : Option Bool :=
  (ay0 l).bind fun x1 => (if (!decide (x1 = 0)) then some true else (ac1 l).bind fun x3 => some x3).bind fun t4 => if t4 then some false else (ar8 l [117,115,101,114]).bind fun x6 => (ar8 l [33,115,101,99,114,101,116]).bind fun x7 => some (x6.2 && (x7.2 && ((!decide (x6.1 = [])) && ((decide ((List.length x6.1 : Int) ≤ 32)) && ((!decide (x7.1 = [])) && (decide ((List.length x7.1 : Int) ≤ 64)))))))
def aw2 (a : aa1) : Option Bool :=
  (strings_HasPrefix a.Name [33]).bind fun x1 => some x1
def ac3 (s_ : (List aa1)) (v5 : Int) : Option (Step Int Int) :=
  if (decide (v5 < (List.length s_ : Int))) then (ad9 s_ v5).bind fun x8 => (aw2 x8).bind fun x9 => if x9 then some (.done v5) else some (.cont (IntKind.wrap .i64 (v5 + 1))) else some (.done (-1))
def ad7 (s_ : (List aa1)) : Option Int :=
  aa8 (fun s => ac3 s_ s) 0
def ae1 (i : Int) (s__1 : (List aa1)) : Option (List aa1) :=
  (cut s__1 0 i).bind fun x17 => some x17
def ab3 (i : Int) (j : Int) (s__1 : (List aa1)) : Option (Step (Int × Int × (List aa1)) (List aa1)) :=
  if (decide (j < (List.length s__1 : Int))) then (ad9 s__1 j).bind fun x13 => (aw2 x13).bind fun x14 => if (!x14) then (ad9 s__1 i).bind fun x16 => some (.cont ((IntKind.wrap .i64 (i + 1)),(IntKind.wrap .i64 (j + 1)),(List.set s__1 (Int.toNat i) x13))) else some (.cont (i,(IntKind.wrap .i64 (j + 1)),s__1)) else (ae1 i s__1).map .done
def af2 (s_ : (List aa1)) : Option (List aa1) :=
  (ad7 s_).bind fun x1 => if (decide (x1 = (-1))) then some s_ else aa8 (fun s => ab3 s.1 s.2.1 s.2.2) (x1,(IntKind.wrap .i64 (x1 + 1)),s_)
def ay1 (l : (List aa1)) : Option (List aa1) :=
  (aa5 l).bind fun x1 => (af2 x1).bind fun x2 => some x2
def ae2 (s1 : (List aa1)) (s2 : (List aa1)) (v6 : Int) : Option (Step Int Bool) :=
  if (decide (v6 < (List.length s1 : Int))) then (ad9 s1 v6).bind fun x9 => (ad9 s2 v6).bind fun x10 => if (!(decide (x9.Name = x10.Name) && (decide (x9.Value = x10.Value) && (decide (x9.Query = x10.Query) && true)))) then some (.done false) else some (.cont (IntKind.wrap .i64 (v6 + 1))) else some (.done true)
def ag9 (s1 : (List aa1)) (s2 : (List aa1)) : Option Bool :=
  if (!decide ((List.length s1 : Int) = (List.length s2 : Int))) then some false else aa8 (fun s => ae2 s1 s2 s) 0
def aF4 (a : (List aa1)) (b : (List aa1)) : Option Bool :=
  (ay1 a).bind fun x1 => (ay1 b).bind fun x2 => (ag9 x1 x2).bind fun x3 => some x3
def a38 (o : (List aa1)) (a1 : (List aa1)) : Option Bool :=
  (aF4 o a1).bind fun x1 => some x1
def ac8 (s_ : (List (List aa1))) (f : (List aa1)) (v5 : Int) : Option (Step Int Int) :=
  if (decide (v5 < (List.length s_ : Int))) then (ad9 s_ v5).bind fun x8 => (a38 x8 f).bind fun x9 => if x9 then some (.done v5) else some (.cont (IntKind.wrap .i64 (v5 + 1))) else some (.done (-1))
def ae3 (s_ : (List (List aa1))) (f : (List aa1)) : Option Int :=
  aa8 (fun s => ac8 s_ f s) 0
def a71 (a : aa2) (text : Str) : Option (aa2 × Int) :=
  (af4 a).bind fun x1 => (ax9 text).bind fun x2 => if (!decide (x2.2.2 = 0)) then some (x1,x2.2.2) else (aS8 x2.1).bind fun x4 => if (!x4) then some (x1,52) else (ae3 x1.Keys x2.1).bind fun x6 => if (decide (0 ≤ x6)) then (ad9 x1.Keys x6).bind fun x8 => some ({x1 with Keys := List.set x1.Keys (Int.toNat x6) x2.1},0) else if (decide (64 ≤ (List.length x1.Keys : Int))) then some (x1,22) else (aC2 24 x1.Keys [x2.1]).bind fun x10 => some ({x1 with Keys := x10},0)
def ar9 (l : (List aa1)) (pattern : (List aa1)) (v8 : Int) : Option (Step Int Bool) :=
  if (decide (v8 < (List.length pattern : Int))) then (ad9 pattern v8).bind fun x11 => (ar8 l x11.Name).bind fun x12 => if ((!x12.2) || ((!x11.Query) && (!decide (x12.1 = x11.Value)))) then some (.done false) else some (.cont (IntKind.wrap .i64 (v8 + 1))) else some (.done true)
def au4 (l : (List aa1)) (pattern : (List aa1)) : Option Bool :=
  aa8 (fun s => ar9 l pattern s) 0
def at6 (k : (List aa1)) (a1 : (List aa1)) : Option Bool :=
  (au4 k a1).bind fun x1 => some x1
def ac9 (s_ : (List (List aa1))) (f : (List aa1)) (v5 : Int) : Option (Step Int Int) :=
  if (decide (v5 < (List.length s_ : Int))) then (ad9 s_ v5).bind fun x8 => (at6 x8 f).bind fun x9 => if x9 then some (.done v5) else some (.cont (IntKind.wrap .i64 (v5 + 1))) else some (.done (-1))
def ae4 (s_ : (List (List aa1))) (f : (List aa1)) : Option Int :=
  aa8 (fun s => ac9 s_ f s) 0
def ae9 (i : Int) (s__1 : (List (List aa1))) : Option (List (List aa1)) :=
  (cut s__1 0 i).bind fun x17 => some x17
def ab7 (del : (List aa1)) (i : Int) (j : Int) (s__1 : (List (List aa1))) : Option (Step (Int × Int × (List (List aa1))) (List (List aa1))) :=
  if (decide (j < (List.length s__1 : Int))) then (ad9 s__1 j).bind fun x13 => (at6 x13 del).bind fun x14 => if (!x14) then (ad9 s__1 i).bind fun x16 => some (.cont ((IntKind.wrap .i64 (i + 1)),(IntKind.wrap .i64 (j + 1)),(List.set s__1 (Int.toNat i) x13))) else some (.cont (i,(IntKind.wrap .i64 (j + 1)),s__1)) else (ae9 i s__1).map .done
def ad0 (s_ : (List (List aa1))) (del : (List aa1)) : Option (List (List aa1)) :=
  (ae4 s_ del).bind fun x1 => if (decide (x1 = (-1))) then some s_ else aa8 (fun s => ab7 del s.1 s.2.1 s.2.2) (x1,(IntKind.wrap .i64 (x1 + 1)),s_)
def aH2 (a : aa2) (text : Str) : Option (aa2 × Int) :=
  (af4 a).bind fun x1 => (ax9 text).bind fun x2 => if (!decide (x2.2.2 = 0)) then some (x1,x2.2.2) else (ad0 x1.Keys x2.1).bind fun x4 => if (decide ((List.length x4 : Int) = (List.length x1.Keys : Int))) then (af4 a).bind fun x6 => some (x6,52) else some ({x1 with Keys := x4},0)
def ag6 (a : aa2) (line : Str) : Option (aa2 × Int) :=
  (strings_Cut line [32]).bind fun x1 => if (x1.2.2 && (decide (x1.1 = [107,101,121]))) then (a71 a x1.2.1).bind fun x5 => some (x5.1,x5.2) else if (x1.2.2 && (decide (x1.1 = [100,101,108,107,101,121]))) then (aH2 a x1.2.1).bind fun x9 => some (x9.1,x9.2) else (af4 a).bind fun x10 => some (x10,54)
def aS9 (c : aa3) (a1 : Int) : Option Bool :=
  some (decide (c.Id = (IntKind.wrap .i64 (a1 - 16))))
def ab2 (s_ : (List aa3)) (f : Int) (v5 : Int) : Option (Step Int Int) :=
  if (decide (v5 < (List.length s_ : Int))) then (ad9 s_ v5).bind fun x8 => (aS9 x8 f).bind fun x9 => if x9 then some (.done v5) else some (.cont (IntKind.wrap .i64 (v5 + 1))) else some (.done (-1))
def ag7 (s_ : (List aa3)) (f : Int) : Option Int :=
  aa8 (fun s => ab2 s_ f s) 0
def au5 (a : aa2) (id : Int) : Option Int :=
  (ag7 a.Convs id).bind fun x1 => some x1
def am2 (a : aa2) (id : Int) : Option Bool :=
  (if (decide (1 ≤ id)) then if (decide (id ≤ 4)) then some true else (au5 a id).bind fun x3 => some (decide (0 ≤ x3)) else (au5 a id).bind fun x4 => some (decide (0 ≤ x4))).bind fun t5 => some t5
def as0 (c : aa3) : Option Bool :=
  some ((decide (c.Proto = [])) && ((decide (c.Role = 0)) && ((decide (c.Phase = 0)) && ((decide (c.Step = 0)) && ((decide ((List.length c.Key : Int) = 0)) && ((decide (c.Own = [])) && ((decide (c.Peer = [])) && ((decide (c.User = [])) && (decide (c.Err = 0))))))))))
def an0 (c : aa3) : Option aa3 :=
  (aa5 c.Key).bind fun x1 => some {c with Key := x1}
def ar1 (t_ : aa4) : Option Int :=
  if (decide (t_.Conv.Proto = [99,104,97,108])) then some 0 else if (decide (t_.Conv.Proto = [109,117,116,117,97,108])) then some 1 else some 2
def aq3 (t_ : aa4) : Option (Str × Str) :=
  if (decide (t_.Conv.Role = 1)) then some (t_.Conv.Own,t_.Conv.Peer) else some (t_.Conv.Peer,t_.Conv.Own)
def ad3 (t_ : aa4) (name : Str) : Option Str :=
  (ar8 t_.Conv.Key name).bind fun x1 => some x1.1
def am3 (n : Int) (x9 : (List Int)) (v13 : Int) (out : (List Int)) : Option (Step (Int × (List Int)) (Str × Int)) :=
  if (decide (v13 < (List.length x9 : Int))) then (bm4 .i64 n (IntKind.wrap .i64 (8 * v13))).bind fun x17 => (ad9 out v13).bind fun x18 => some (.cont ((IntKind.wrap .i64 (v13 + 1)),(List.set out (Int.toNat v13) (IntKind.wrap .u8 x17)))) else some (.done ((bA2 out),0))
def aT0 (n : Int) (width : Int) : Option (Str × Int) :=
  if ((decide (width < 1)) || (decide (8 < width))) then some ([],1) else (if (decide (n < 0)) then some true else if (decide (width < 8)) then (bm4 .i64 n (IntKind.wrap .i64 (8 * width))).bind fun x6 => some (decide (0 < x6)) else some false).bind fun t7 => if t7 then some ([],5) else (mkC 1 (0 : Int) width width).bind fun x9 => aa8 (fun s => am3 n x9 s.1 s.2) (0,x9)
def aN2 (s_ : Str) : Option (Str × Int) :=
  if (decide (65535 < (List.length s_ : Int))) then some ([],4) else (aT0 (List.length s_ : Int) 2).bind fun x2 => (am8 x2.1 s_).bind fun x3 => some (x3,x2.2)
def ao9 (s_ : Str) : Option Str :=
  (aN2 s_).bind fun x1 => some x1.1
def ap0 (s_ : Str) (i : Int) (v12 : Str) : Option (Step (Int × Str) Str) :=
  if (decide (0 ≤ i)) then (bm4 .u64 (IntKind.wrap .u64 (8 * (IntKind.wrap .u64 (List.length s_ : Int)))) i).bind fun x15 => (bAdd v12 [(u8w x15)]).bind fun x16 => some (.cont ((IntKind.wrap .i64 (i - 8)),x16)) else some (.done v12)
def aF5 (s_ : Str) (v5 : Str) : Option (Step Str Str) :=
  if (!decide ((Int.tmod (List.length v5 : Int) 64) = 56)) then (bAdd v5 [(0 : UInt8)]).bind fun x8 => some (.cont x8) else (aa8 (fun s => ap0 s_ s.1 s.2) (56,v5)).map .done
def bi7 (s_ : Str) : Option Str :=
  (bAdd ([] : Str) s_).bind fun x1 => (bAdd x1 [(128 : UInt8)]).bind fun x2 => aa8 (fun s => aF5 s_ s) x2
def a73 (s_ : Str) : Option Int :=
  (ah3 s_ 0).bind fun c1 => (b19 .u32 (IntKind.wrap .u32 (c1.toNat : Int)) 24).bind fun x2 => (ah3 s_ 1).bind fun c3 => (b19 .u32 (IntKind.wrap .u32 (c3.toNat : Int)) 16).bind fun x4 => (ah3 s_ 2).bind fun c5 => (b19 .u32 (IntKind.wrap .u32 (c5.toNat : Int)) 8).bind fun x6 => (ah3 s_ 3).bind fun c7 => some (IntKind.wrap .u32 ((BitVec.ofInt (IntKind.bits .u32) (IntKind.wrap .u32 ((BitVec.ofInt (IntKind.bits .u32) (IntKind.wrap .u32 ((BitVec.ofInt (IntKind.bits .u32) x2 ||| (BitVec.ofInt (IntKind.bits .u32) x4)).toNat : Nat)) ||| (BitVec.ofInt (IntKind.bits .u32) x6)).toNat : Nat)) ||| (BitVec.ofInt (IntKind.bits .u32) (IntKind.wrap .u32 (c7.toNat : Int)))).toNat : Nat))
def aq8 (x_ : Int) (k : Int) : Option Int :=
  (b19 .u32 x_ (IntKind.wrap .u64 ((BitVec.ofInt (IntKind.bits .u64) (IntKind.wrap .u64 k) &&& (BitVec.ofInt (IntKind.bits .u64) 31)).toNat : Nat))).bind fun x1 => (bm4 .u32 x_ (IntKind.wrap .u64 (32 - (IntKind.wrap .u64 ((BitVec.ofInt (IntKind.bits .u64) (IntKind.wrap .u64 k) &&& (BitVec.ofInt (IntKind.bits .u64) 31)).toNat : Nat))))).bind fun x2 => some (IntKind.wrap .u32 ((BitVec.ofInt (IntKind.bits .u32) x1 ||| (BitVec.ofInt (IntKind.bits .u32) x2)).toNat : Nat))
def af1 (x_ : Int) (n : Int) : Option Int :=
  (aq8 x_ (IntKind.wrap .i64 (0 - n))).bind fun x1 => some x1
def ay2 (v5 : (List Int)) : Option (List Int) :=
  (a30 64 v5).bind fun x29 => some v5
def al0 (block : Str) (v4 : Int) (v5 : (List Int)) : Option (Step (Int × (List Int)) (List Int)) :=
  if (decide (v4 < 64)) then if (decide (v4 < 16)) then (cut block (IntKind.wrap .i64 (4 * v4)) (List.length block : Int)).bind fun x9 => (a73 x9).bind fun x10 => (bL9 64 v4).bind fun x11 => (aC3 v5 v4 x10).bind fun x12 => some (.cont ((IntKind.wrap .i64 (v4 + 1)),x12)) else (bL9 64 (IntKind.wrap .i64 (v4 - 15))).bind fun x13 => (ad9 v5 (IntKind.wrap .i64 (v4 - 15))).bind fun x14 => (bL9 64 (IntKind.wrap .i64 (v4 - 2))).bind fun x15 => (ad9 v5 (IntKind.wrap .i64 (v4 - 2))).bind fun x16 => (af1 x14 7).bind fun x17 => (af1 x14 18).bind fun x18 => (bm4 .u32 x14 3).bind fun x19 => (af1 x16 17).bind fun x20 => (af1 x16 19).bind fun x21 => (bm4 .u32 x16 10).bind fun x22 => (bL9 64 (IntKind.wrap .i64 (v4 - 16))).bind fun x23 => (ad9 v5 (IntKind.wrap .i64 (v4 - 16))).bind fun x24 => (bL9 64 (IntKind.wrap .i64 (v4 - 7))).bind fun x25 => (ad9 v5 (IntKind.wrap .i64 (v4 - 7))).bind fun x26 => (bL9 64 v4).bind fun x27 => (aC3 v5 v4 (IntKind.wrap .u32 ((IntKind.wrap .u32 ((IntKind.wrap .u32 (x24 + (IntKind.wrap .u32 ((BitVec.ofInt (IntKind.bits .u32) (IntKind.wrap .u32 ((BitVec.ofInt (IntKind.bits .u32) x17 ^^^ (BitVec.ofInt (IntKind.bits .u32) x18)).toNat : Nat)) ^^^ (BitVec.ofInt (IntKind.bits .u32) x19)).toNat : Nat)))) + x26)) + (IntKind.wrap .u32 ((BitVec.ofInt (IntKind.bits .u32) (IntKind.wrap .u32 ((BitVec.ofInt (IntKind.bits .u32) x20 ^^^ (BitVec.ofInt (IntKind.bits .u32) x21)).toNat : Nat)) ^^^ (BitVec.ofInt (IntKind.bits .u32) x22)).toNat : Nat))))).bind fun x28 => some (.cont ((IntKind.wrap .i64 (v4 + 1)),x28)) else (ay2 v5).map .done
def aC6 (block : Str) : Option (List Int) :=
  aa8 (fun s => al0 block s.1 s.2) (0,(List.replicate 64 (0 : Int)))
def bf9 (v47 : (List Int)) : Option (List Int) :=
  (a30 8 v47).bind fun x56 => some v47
def ac7 (v22 : (List Int)) (v46 : Int) (v47 : (List Int)) : Option (Step (Int × (List Int)) (List Int)) :=
  if (decide (v46 < 8)) then (bL9 8 v46).bind fun x50 => (ad9 v47 v46).bind fun x51 => (bL9 8 v46).bind fun x52 => (ad9 v22 v46).bind fun x53 => (bL9 8 v46).bind fun x54 => (aC3 v47 v46 (IntKind.wrap .u32 (x51 + x53))).bind fun x55 => some (.cont ((IntKind.wrap .i64 (v46 + 1)),x55)) else (bf9 v47).map .done
def aA3 (h_ : (List Int)) (x2 : (List Int)) (v21 : Int) (v22 : (List Int)) : Option (Step (Int × (List Int)) (List Int)) :=
  if (decide (v21 < 64)) then (ad9 v22 0).bind fun x25 => (ad9 v22 1).bind fun x26 => (ad9 v22 2).bind fun x27 => (ad9 v22 4).bind fun x28 => (ad9 v22 5).bind fun x29 => (ad9 v22 6).bind fun x30 => (ad9 v22 7).bind fun x31 => (af1 x28 6).bind fun x32 => (af1 x28 11).bind fun x33 => (af1 x28 25).bind fun x34 => (bL9 64 v21).bind fun x35 => (ad9 an7 v21).bind fun x36 => (bL9 64 v21).bind fun x37 => (ad9 x2 v21).bind fun x38 => (af1 x25 2).bind fun x39 => (af1 x25 13).bind fun x40 => (af1 x25 22).bind fun x41 => (ad9 v22 3).bind fun x42 => some (.cont ((IntKind.wrap .i64 (v21 + 1)),([(IntKind.wrap .u32 ((IntKind.wrap .u32 ((IntKind.wrap .u32 ((IntKind.wrap .u32 ((IntKind.wrap .u32 (x31 + (IntKind.wrap .u32 ((BitVec.ofInt (IntKind.bits .u32) (IntKind.wrap .u32 ((BitVec.ofInt (IntKind.bits .u32) x32 ^^^ (BitVec.ofInt (IntKind.bits .u32) x33)).toNat : Nat)) ^^^ (BitVec.ofInt (IntKind.bits .u32) x34)).toNat : Nat)))) + (IntKind.wrap .u32 ((BitVec.ofInt (IntKind.bits .u32) (IntKind.wrap .u32 ((BitVec.ofInt (IntKind.bits .u32) x28 &&& (BitVec.ofInt (IntKind.bits .u32) x29)).toNat : Nat)) ^^^ (BitVec.ofInt (IntKind.bits .u32) (IntKind.wrap .u32 ((BitVec.ofInt (IntKind.bits .u32) (notI .u32 x28) &&& (BitVec.ofInt (IntKind.bits .u32) x30)).toNat : Nat)))).toNat : Nat)))) + x36)) + x38)) + (IntKind.wrap .u32 ((IntKind.wrap .u32 ((BitVec.ofInt (IntKind.bits .u32) (IntKind.wrap .u32 ((BitVec.ofInt (IntKind.bits .u32) x39 ^^^ (BitVec.ofInt (IntKind.bits .u32) x40)).toNat : Nat)) ^^^ (BitVec.ofInt (IntKind.bits .u32) x41)).toNat : Nat)) + (IntKind.wrap .u32 ((BitVec.ofInt (IntKind.bits .u32) (IntKind.wrap .u32 ((BitVec.ofInt (IntKind.bits .u32) (IntKind.wrap .u32 ((BitVec.ofInt (IntKind.bits .u32) x25 &&& (BitVec.ofInt (IntKind.bits .u32) x26)).toNat : Nat)) ^^^ (BitVec.ofInt (IntKind.bits .u32) (IntKind.wrap .u32 ((BitVec.ofInt (IntKind.bits .u32) x25 &&& (BitVec.ofInt (IntKind.bits .u32) x27)).toNat : Nat)))).toNat : Nat)) ^^^ (BitVec.ofInt (IntKind.bits .u32) (IntKind.wrap .u32 ((BitVec.ofInt (IntKind.bits .u32) x26 &&& (BitVec.ofInt (IntKind.bits .u32) x27)).toNat : Nat)))).toNat : Nat)))))),x25,x26,x27,(IntKind.wrap .u32 (x42 + (IntKind.wrap .u32 ((IntKind.wrap .u32 ((IntKind.wrap .u32 ((IntKind.wrap .u32 (x31 + (IntKind.wrap .u32 ((BitVec.ofInt (IntKind.bits .u32) (IntKind.wrap .u32 ((BitVec.ofInt (IntKind.bits .u32) x32 ^^^ (BitVec.ofInt (IntKind.bits .u32) x33)).toNat : Nat)) ^^^ (BitVec.ofInt (IntKind.bits .u32) x34)).toNat : Nat)))) + (IntKind.wrap .u32 ((BitVec.ofInt (IntKind.bits .u32) (IntKind.wrap .u32 ((BitVec.ofInt (IntKind.bits .u32) x28 &&& (BitVec.ofInt (IntKind.bits .u32) x29)).toNat : Nat)) ^^^ (BitVec.ofInt (IntKind.bits .u32) (IntKind.wrap .u32 ((BitVec.ofInt (IntKind.bits .u32) (notI .u32 x28) &&& (BitVec.ofInt (IntKind.bits .u32) x30)).toNat : Nat)))).toNat : Nat)))) + x36)) + x38)))),x28,x29,x30] : List Int))) else (aa8 (fun s => ac7 v22 s.1 s.2) (0,h_)).map .done
def a74 (h_ : (List Int)) (block : Str) : Option (List Int) :=
  (a30 8 h_).bind fun x1 => (aC6 block).bind fun x2 => (a30 64 x2).bind fun x3 => (a30 8 h_).bind fun x4 => aa8 (fun s => aA3 h_ x2 s.1 s.2) (0,h_)
def au6 (v8 : (List Int)) (v21 : Int) (out : (List Int)) : Option (Step (Int × (List Int)) Str) :=
  if (decide (v21 < 8)) then (bM0 8 v8 v21).bind fun x25 => (bm4 .u32 x25 24).bind fun x26 => (bm4 .u32 x25 16).bind fun x27 => (bm4 .u32 x25 8).bind fun x28 => (aC2 1 out [(IntKind.wrap .u8 x26),(IntKind.wrap .u8 x27),(IntKind.wrap .u8 x28),(IntKind.wrap .u8 x25)]).bind fun x29 => some (.cont ((IntKind.wrap .i64 (v21 + 1)),x29)) else some (.done (bA2 out))
def aH3 (v8 : (List Int)) : Option Str :=
  (mkC 1 (0 : Int) 0 32).bind fun x15 => aa8 (fun s => au6 v8 s.1 s.2) (0,x15)
def aF6 (p : Str) (v8 : (List Int)) : Option (Step (Str × (List Int)) Str) :=
  if (!decide (p = [])) then (cut p 0 64).bind fun x11 => (a74 v8 x11).bind fun x12 => (a30 8 x12).bind fun x13 => (cut p 64 (List.length p : Int)).bind fun x14 => some (.cont (x14,x12)) else (aH3 v8).map .done
def aN3 (s_ : Str) : Option Str :=
  (bi7 s_).bind fun x1 => aa8 (fun s => aF6 s.1 s.2) (x1,([1779033703,3144134277,1013904242,2773480762,1359893119,2600822924,528734635,1541459225] : List Int))
def aq6 (key : Str) (with_ : Int) (x1 : (List Int)) (v5 : Int) (out : (List Int)) : Option (Step (Int × (List Int)) Str) :=
  if (decide (v5 < (List.length (cpB key x1) : Int))) then (ad9 out v5).bind fun x9 => (ad9 out v5).bind fun x10 => some (.cont ((IntKind.wrap .i64 (v5 + 1)),(List.set out (Int.toNat v5) (IntKind.wrap .u8 ((BitVec.ofInt (IntKind.bits .u8) x9 ^^^ (BitVec.ofInt (IntKind.bits .u8) with_)).toNat : Nat))))) else some (.done (bA2 out))
def ay3 (key : Str) (with_ : Int) : Option Str :=
  (mkC 1 (0 : Int) 64 64).bind fun x1 => aa8 (fun s => aq6 key with_ x1 s.1 s.2) (0,(cpB key x1))
def aF7 (s_ : Str) (p2 : Str) : Option Str :=
  (ay3 p2 92).bind fun x3 => (ay3 p2 54).bind fun x4 => (am8 x4 s_).bind fun x5 => (aN3 x5).bind fun x6 => (am8 x3 x6).bind fun x7 => (aN3 x7).bind fun x8 => some x8
def a77 (key : Str) (s_ : Str) : Option Str :=
  if (decide (64 < (List.length key : Int))) then (aN3 key).bind fun x10 => aF7 s_ x10 else aF7 s_ key
def as7 (t_ : aa4) (s_ : Str) : Option Str :=
  (ad3 t_ [33,115,101,99,114,101,116]).bind fun x1 => (a77 x1 s_).bind fun x2 => some x2
def aj8 (t_ : aa4) (n : Int) : Option Str :=
  (aq3 t_).bind fun x1 => if (decide (n = 0)) then some x1.2 else if (decide (n = 1)) then (ad3 t_ [117,115,101,114]).bind fun x4 => (ao9 x4).bind fun x5 => (as7 t_ x1.2).bind fun x6 => (am8 x5 x6).bind fun x7 => some x7 else some [111,107]
def ai0 (t_ : aa4) (n : Int) : Option Str :=
  (aq3 t_).bind fun x1 => if (decide (n = 0)) then (ad3 t_ [117,115,101,114]).bind fun x3 => (ao9 x3).bind fun x4 => (am8 x4 x1.1).bind fun x5 => some x5 else if (decide (n = 1)) then (am8 [115,101,114,118,101,114] x1.1).bind fun x7 => (am8 x7 x1.2).bind fun x8 => (as7 t_ x8).bind fun x9 => (am8 x1.2 x9).bind fun x10 => some x10 else (am8 [99,108,105,101,110,116] x1.1).bind fun x11 => (am8 x11 x1.2).bind fun x12 => (as7 t_ x12).bind fun x13 => some x13
def ai9 (t_ : aa4) (n : Int) : Option Str :=
  if (decide (n = 0)) then (ad3 t_ [117,115,101,114]).bind fun x2 => (ao9 x2).bind fun x3 => (ad3 t_ [33,115,101,99,114,101,116]).bind fun x4 => (ao9 x4).bind fun x5 => (am8 x3 x5).bind fun x6 => some x6 else some [111,107]
def aF8 (proto : Str) : Option Int :=
  if (decide (proto = [112,108,97,105,110])) then some 2 else some 3
def aC7 (role : Int) (n : Int) (p2 : Int) : Option Bool :=
  some (decide ((decide ((Int.tmod n 2) = 0)) = (decide (role = p2))))
def aJ9 (proto : Str) (role : Int) (n : Int) : Option Bool :=
  if (decide (proto = [99,104,97,108])) then aC7 role n 2 else aC7 role n 1
def aK0 (c : aa3) : Option Int :=
  (aF8 c.Proto).bind fun x1 => if (decide (c.Step = x1)) then some 3 else (aJ9 c.Proto c.Role c.Step).bind fun x3 => if x3 then some 1 else some 2
def am4 (c : aa3) : Option aa3 :=
  (aa5 c.Key).bind fun x1 => (aK0 {c with Key := x1}).bind fun x2 => if (decide (x2 = 3)) then (ad3 (aa4.mk {c with Phase := x2,Key := x1,User := []}) [117,115,101,114]).bind fun x4 => some {c with Phase := x2,Key := x1,User := x4} else some {c with Phase := x2,Key := x1,User := []}
def a78 (c : aa3) : Option (aa3 × Str × Int) :=
  if (!decide (c.Phase = 1)) then (an0 c).bind fun x2 => some (x2,[],53) else (if (decide ((aa4.mk c).Conv.Proto = [99,104,97,108])) then (aj8 (aa4.mk c) c.Step).bind fun x4 => some x4 else if (decide ((aa4.mk c).Conv.Proto = [109,117,116,117,97,108])) then (ai0 (aa4.mk c) c.Step).bind fun x6 => some x6 else (ai9 (aa4.mk c) c.Step).bind fun x7 => some x7).bind fun t8 => (am4 {c with Step := IntKind.wrap .i64 (c.Step + 1)}).bind fun x9 => some (x9,t8,0)
def aX1 (a : aa2) (i : Int) (count : Int) : Option (aa2 × Str × Int) :=
  (af4 a).bind fun x1 => (ad9 a.Convs i).bind fun x2 => (as0 x2).bind fun x3 => if x3 then some (x1,[],53) else (ad9 a.Convs i).bind fun x5 => (a78 x5).bind fun x6 => if (!decide (x6.2.2 = 0)) then some (x1,[],x6.2.2) else if (decide (count < (List.length x6.2.1 : Int))) then some (x1,[],3) else (ad9 x1.Convs i).bind fun x9 => some ({x1 with Convs := List.set x1.Convs (Int.toNat i) x6.1},x6.2.1,0)
def strings_ReplaceAll (a0 : Str) (a1 : Str) (a2 : Str) : Option Str := aM3 a0 a1 a2
def aX2 (s_ : Str) : Option Str :=
  (if (!decide (s_ = [])) then (aq5 s_ [32,9,39]).bind fun x2 => some (decide (x2 = (List.length s_ : Int))) else some false).bind fun t3 => if t3 then some s_ else (strings_ReplaceAll s_ [39] [39,39]).bind fun x5 => (am8 [39] x5).bind fun x6 => (am8 x6 [39]).bind fun x7 => some x7
def strings_Join (a0 : (List Str)) (a1 : Str) : Option Str := b73 a0 a1
def aI5 (words : (List Str)) : Option (Str × Int) :=
  (strings_Join words [32]).bind fun x25 => some (x25,0)
def at7 (l : (List aa1)) (v13 : Int) (words : (List Str)) : Option (Step (Int × (List Str)) (Str × Int)) :=
  if (decide (v13 < (List.length l : Int))) then (ad9 l v13).bind fun x17 => if x17.Query then (am8 x17.Name [63]).bind fun x19 => (aC2 16 words [x19]).bind fun x20 => some (.cont ((IntKind.wrap .i64 (v13 + 1)),x20)) else (am8 x17.Name [61]).bind fun x21 => (aX2 x17.Value).bind fun x22 => (am8 x21 x22).bind fun x23 => (aC2 16 words [x23]).bind fun x24 => some (.cont ((IntKind.wrap .i64 (v13 + 1)),x24)) else (aI5 words).map .done
def aX3 (l : (List aa1)) : Option (Str × Int) :=
  (ay0 l).bind fun x1 => if (!decide (x1 = 0)) then some ([],x1) else (mkC 16 ([] : Str) 0 (List.length l : Int)).bind fun x3 => aa8 (fun s => at7 l s.1 s.2) (0,x3)
def ap5 : Option (List Str) :=
  some [[99,104,97,108],[109,117,116,117,97,108],[112,108,97,105,110]]
def ao3 (p2 : Str) : Option Str :=
  some p2
def am5 (a : aa2) (v11 : Int) (v12 : Str) : Option (Step (Int × Str) Str) :=
  if (decide (v11 < (List.length a.Keys : Int))) then (ad9 a.Keys v11).bind fun x15 => (ay1 x15).bind fun x16 => (aX3 x16).bind fun x17 => (am8 [107,101,121,32] x17.1).bind fun x18 => (am8 x18 [10]).bind fun x19 => (bAdd v12 x19).bind fun x20 => some (.cont ((IntKind.wrap .i64 (v11 + 1)),x20)) else (ao3 v12).map .done
def aj1 (x22 : (List Str)) (v27 : Int) (v28 : Str) : Option (Step (Int × Str) Str) :=
  if (decide (v27 < (List.length x22 : Int))) then (ad9 x22 v27).bind fun x31 => (am8 x31 [10]).bind fun x32 => (bAdd v28 x32).bind fun x33 => some (.cont ((IntKind.wrap .i64 (v27 + 1)),x33)) else (ao3 v28).map .done
def az4 (a : aa2) (id : Int) : Option Str :=
  if (decide (id = 2)) then aa8 (fun s => am5 a s.1 s.2) (0,([] : Str)) else if (decide (id = 3)) then (ap5).bind fun x22 => aa8 (fun s => aj1 x22 s.1 s.2) (0,([] : Str)) else ao3 ([] : Str)
def ah0 (a : aa2) (id : Int) (offset : Int) (count : Int) : Option (aa2 × Str × Int) :=
  (af4 a).bind fun x1 => (am2 a id).bind fun x2 => if (!x2) then some (x1,[],8) else if (decide (id = 1)) then some (x1,[],10) else if ((decide (offset < 0)) || (decide (count < 0))) then some (x1,[],1) else (au5 a id).bind fun x8 => if (decide (0 ≤ x8)) then (aX1 a x8 (min count 65536)).bind fun x10 => some (x10.1,x10.2.1,x10.2.2) else (az4 a id).bind fun x11 => (cut x11 (min offset (List.length x11 : Int)) (List.length x11 : Int)).bind fun x12 => (cut x12 0 (min (min count 65536) (List.length x12 : Int))).bind fun x13 => some (x1,x13,0)
def ap6 (mode : Int) (bit : Int) : Option Int :=
  (if (decide (0 ≤ mode)) then (cB0 .i64 mode bit).bind fun x2 => some (decide ((Int.tmod x2 2) = 1)) else some false).bind fun t3 => if t3 then some (IntKind.wrap .i64 (mode - bit)) else some mode
def aN4 (a : aa2) (user : Str) (id : Int) (mode : Int) : Option Int :=
  (ap6 mode 16).bind fun x1 => (ap6 x1 64).bind fun x2 => (am2 a id).bind fun x3 => if (!x3) then some 8 else if ((decide (x2 < 0)) || (decide (3 < x2))) then some 12 else if ((decide (id = 1)) && (!decide (mode = 0))) then some 10 else if (decide (id = 1)) then some 0 else (if (decide (id = 3)) then (ap6 mode 64).bind fun x13 => some (!decide (x13 = 0)) else some false).bind fun t14 => if t14 then some 11 else if ((!decide (id = 3)) && ((!decide (user = a.Owner)) || (decide (x2 = 3)))) then some 11 else if ((decide (id = 4)) && ((decide (32 ≤ (List.length a.Convs : Int))) || (decide (1048560 ≤ a.Next)))) then some 22 else some 0
def aq7 (a : aa2) (user : Str) (id : Int) (mode : Int) : Option (aa2 × Int × Int) :=
  (af4 a).bind fun x1 => (aN4 a user id mode).bind fun x2 => if (!decide (x2 = 0)) then some (x1,0,x2) else if (!decide (id = 4)) then some (x1,id,0) else (aC2 128 x1.Convs [(aa3.mk x1.Next [] 0 0 0 ([] : List aa1) [] [] [] 0)]).bind fun x5 => some ({x1 with Next := IntKind.wrap .i64 (x1.Next + 1),Convs := x5},(IntKind.wrap .i64 (16 + a.Next)),0)
def ap1 (s_ : Str) : Option Int :=
  none
def ak2 (s_ : Str) : Option (Int × Int) :=
  if (decide ((List.length s_ : Int) < 1)) then some (65533,0) else (ah3 s_ 0).bind fun c2 => none
def ao4 (s_ : Str) : Option (Int × Int) :=
  (if (!decide (s_ = [])) then (ah3 s_ 0).bind fun c2 => some (decide ((c2.toNat : Int) < 128)) else some false).bind fun t3 => if t3 then (ah3 s_ 0).bind fun c5 => some ((IntKind.wrap .i32 (c5.toNat : Int)),1) else (ak2 s_).bind fun x6 => some (x6.1,x6.2)
def aF9 (p3 : Int) (s__1 : Str) (a : (List Str)) : Option (List Str) :=
  if (decide (0 < p3)) then (ad9 a (IntKind.wrap .i64 (p3 - 1))).bind fun x20 => some (List.set a (Int.toNat (IntKind.wrap .i64 (p3 - 1))) s__1) else some a
def aG0 (p3 : Int) (s__1 : Str) (i : Int) (a : (List Str)) : Option (Step (Str × Int × (List Str)) (List Str)) :=
  if (decide (i < (IntKind.wrap .i64 (p3 - 1)))) then (ao4 s__1).bind fun x15 => (cut s__1 0 x15.2).bind fun x16 => (ad9 a i).bind fun x17 => (cut s__1 x15.2 (List.length s__1 : Int)).bind fun x18 => some (.cont (x18,(IntKind.wrap .i64 (i + 1)),(List.set a (Int.toNat i) x16))) else (aF9 p3 s__1 a).map .done
def aw3 (s_ : Str) (p3 : Int) : Option (List Str) :=
  (mkC 16 ([] : Str) p3 p3).bind fun x4 => aa8 (fun s => aG0 p3 s.1 s.2.1 s.2.2) (s_,0,x4)
def aT1 (s_ : Str) (n : Int) : Option (List Str) :=
  (ap1 s_).bind fun x1 => if ((decide (n < 0)) || (decide (x1 < n))) then aw3 s_ x1 else aw3 s_ n
def strings_Count (a0 : Str) (a1 : Str) : Option Int := b72 a0 a1
def ap7 (p8 : Str) (p9 : Int) (p10 : (List Str)) : Option (List Str) :=
  (ad9 p10 p9).bind fun x11 => (cut (List.set p10 (Int.toNat p9) p8) 0 (IntKind.wrap .i64 (p9 + 1))).bind fun x12 => some x12
def aj5 (s_ : Str) (sep : Str) (sepSave : Int) (p5 : Int) (s__2 : Str) (i_1 : Int) (a_1 : (List Str)) : Option (Step (Str × Int × (List Str)) (List Str)) :=
  if (decide (i_1 < (IntKind.wrap .i64 ((min p5 (IntKind.wrap .i64 ((List.length s_ : Int) + 1))) - 1)))) then (strings_Index s__2 sep).bind fun x24 => if (decide (x24 < 0)) then (ap7 s__2 i_1 a_1).map .done else (cut s__2 0 (IntKind.wrap .i64 (x24 + sepSave))).bind fun x26 => (ad9 a_1 i_1).bind fun x27 => (cut s__2 (IntKind.wrap .i64 (x24 + (List.length sep : Int))) (List.length s__2 : Int)).bind fun x28 => some (.cont (x28,(IntKind.wrap .i64 (i_1 + 1)),(List.set a_1 (Int.toNat i_1) x26))) else (ap7 s__2 i_1 a_1).map .done
def ap8 (s_ : Str) (sep : Str) (sepSave : Int) (p5 : Int) : Option (List Str) :=
  (mkC 16 ([] : Str) (min p5 (IntKind.wrap .i64 ((List.length s_ : Int) + 1))) (min p5 (IntKind.wrap .i64 ((List.length s_ : Int) + 1)))).bind fun x6 => aa8 (fun s => aj5 s_ sep sepSave p5 s.1 s.2.1 s.2.2) (s_,0,x6)
def at9 (s_ : Str) (sep : Str) (sepSave : Int) (n : Int) : Option (List Str) :=
  if (decide (n = 0)) then some ([] : List Str) else if (decide (sep = [])) then (aT1 s_ n).bind fun x3 => some x3 else if (decide (n < 0)) then (strings_Count s_ sep).bind fun x30 => ap8 s_ sep sepSave (IntKind.wrap .i64 (x30 + 1)) else ap8 s_ sep sepSave n
def aC8 (s_ : Str) (sep : Str) : Option (List Str) :=
  (at9 s_ sep 0 (-1)).bind fun x1 => some x1
def aj2 (a : aa2) (data : Str) (x2 : (List Str)) (v9 : Int) (v10 : aa2) : Option (Step (Int × aa2) (aa2 × Int × Int)) :=
  if (decide (v9 < (List.length x2 : Int))) then (ad9 x2 v9).bind fun x13 => if (decide (x13 = [])) then some (.cont ((IntKind.wrap .i64 (v9 + 1)),v10)) else (ag6 v10 x13).bind fun x15 => if (!decide (x15.2 = 0)) then (af4 a).bind fun x17 => some (.done (x17,0,x15.2)) else some (.cont ((IntKind.wrap .i64 (v9 + 1)),x15.1)) else some (.done (v10,(List.length data : Int),0))
def az5 (a : aa2) (data : Str) : Option (aa2 × Int × Int) :=
  (af4 a).bind fun x1 => (aC8 data [10]).bind fun x2 => aa8 (fun s => aj2 a data x2 s.1 s.2) (0,x1)
def stringslite_CutPrefix (s_ : Str) (prefix_ : Str) : Option (Str × Bool) :=
  (stringslite_HasPrefix s_ prefix_).bind fun x1 => if (!x1) then some (s_,false) else (cut s_ (List.length prefix_ : Int) (List.length s_ : Int)).bind fun x3 => some (x3,true)
def strings_CutPrefix (s_ : Str) (prefix_ : Str) : Option (Str × Bool) :=
  (stringslite_CutPrefix s_ prefix_).bind fun x1 => some (x1.1,x1.2)
def aX4 (l : (List aa1)) : Option (Int × Bool) :=
  (ar8 l [114,111,108,101]).bind fun x1 => if (decide (x1.1 = [99,108,105,101,110,116])) then some (1,true) else if (decide (x1.1 = [115,101,114,118,101,114])) then some (2,true) else some (0,false)
def az6 (a : aa1) (a1 : Str) : Option Bool :=
  some (decide (a.Name = a1))
def ac4 (s_ : (List aa1)) (f : Str) (v5 : Int) : Option (Step Int Int) :=
  if (decide (v5 < (List.length s_ : Int))) then (ad9 s_ v5).bind fun x8 => (az6 x8 f).bind fun x9 => if x9 then some (.done v5) else some (.cont (IntKind.wrap .i64 (v5 + 1))) else some (.done (-1))
def ad8 (s_ : (List aa1)) (f : Str) : Option Int :=
  aa8 (fun s => ac4 s_ f s) 0
def ae5 (i : Int) (s__1 : (List aa1)) : Option (List aa1) :=
  (cut s__1 0 i).bind fun x17 => some x17
def ab4 (del : Str) (i : Int) (j : Int) (s__1 : (List aa1)) : Option (Step (Int × Int × (List aa1)) (List aa1)) :=
  if (decide (j < (List.length s__1 : Int))) then (ad9 s__1 j).bind fun x13 => (az6 x13 del).bind fun x14 => if (!x14) then (ad9 s__1 i).bind fun x16 => some (.cont ((IntKind.wrap .i64 (i + 1)),(IntKind.wrap .i64 (j + 1)),(List.set s__1 (Int.toNat i) x13))) else some (.cont (i,(IntKind.wrap .i64 (j + 1)),s__1)) else (ae5 i s__1).map .done
def af3 (s_ : (List aa1)) (del : Str) : Option (List aa1) :=
  (ad8 s_ del).bind fun x1 => if (decide (x1 = (-1))) then some s_ else aa8 (fun s => ab4 del s.1 s.2.1 s.2.2) (x1,(IntKind.wrap .i64 (x1 + 1)),s_)
def aA4 (l : (List aa1)) (name : Str) : Option (List aa1) :=
  (aa5 l).bind fun x1 => (af3 x1 name).bind fun x2 => some x2
def aA5 (a : aa2) (pattern : (List aa1)) (v6 : Int) : Option (Step Int ((List aa1) × Bool)) :=
  if (decide (v6 < (List.length a.Keys : Int))) then (ad9 a.Keys v6).bind fun x9 => (au4 x9 pattern).bind fun x10 => if x10 then (aa5 x9).bind fun x12 => some (.done (x12,true)) else some (.cont (IntKind.wrap .i64 (v6 + 1))) else some (.done (([] : List aa1),false))
def aK1 (a : aa2) (pattern : (List aa1)) : Option ((List aa1) × Bool) :=
  aa8 (fun s => aA5 a pattern s) 0
def bo1 (base : Int) : Option Bool :=
  some ((decide (base = 8)) || ((decide (base = 10)) || (decide (base = 16))))
def ay4 (a0 : Int) (a1 : Int) : Option Str := aW8 a0 a1
def a79 (n : Int) (base : Int) : Option Str :=
  (bo1 base).bind fun x1 => if (!x1) then some [] else (ay4 n base).bind fun x3 => some x3
def af5 (s_ : (List Str)) (v : Str) (v4 : Int) : Option (Step Int Int) :=
  if (decide (v4 < (List.length s_ : Int))) then (ad9 s_ v4).bind fun x7 => if (decide (v = x7)) then some (.done v4) else some (.cont (IntKind.wrap .i64 (v4 + 1))) else some (.done (-1))
def ak9 (s_ : (List Str)) (v : Str) : Option Int :=
  aa8 (fun s => af5 s_ v s) 0
def af6 (s_ : (List Str)) (v : Str) : Option Bool :=
  (ak9 s_ v).bind fun x1 => some (decide (0 ≤ x1))
def aD7 (l : (List aa1)) : Option Bool :=
  (ar8 l [117,115,101,114]).bind fun x1 => (ar8 l [33,115,101,99,114,101,116]).bind fun x2 => some (x1.2 && (x2.2 && ((decide (1 ≤ (List.length x1.1 : Int))) && ((decide ((List.length x1.1 : Int) ≤ 32)) && ((decide (1 ≤ (List.length x2.1 : Int))) && (decide ((List.length x2.1 : Int) ≤ 64)))))))
def aX5 (proto : Str) (role : Int) (key : (List aa1)) (at1 : Str) : Option (aa3 × Int) :=
  (ap5).bind fun x1 => (af6 x1 proto).bind fun x2 => if (!x2) then some ((aa3.mk 0 [] 0 0 0 ([] : List aa1) [] [] [] 0),53) else if (bif (!decide (role = 1)) then ((!decide (role = 2)) || (!decide ((List.length at1 : Int) = 32))) else (!decide ((List.length at1 : Int) = 32))) then some ((aa3.mk 0 [] 0 0 0 ([] : List aa1) [] [] [] 0),1) else (ay0 key).bind fun x8 => if (!decide (x8 = 0)) then some ((aa3.mk 0 [] 0 0 0 ([] : List aa1) [] [] [] 0),x8) else (aD7 key).bind fun x10 => if (!x10) then some ((aa3.mk 0 [] 0 0 0 ([] : List aa1) [] [] [] 0),52) else (am4 (aa3.mk 0 proto role 0 0 key at1 [] [] 0)).bind fun x12 => some (x12,0)
def aA6 (a : aa2) (i : Int) (data : Str) : Option (aa2 × Int × Int) :=
  (af4 a).bind fun x1 => (strings_CutPrefix data [115,116,97,114,116,32]).bind fun x2 => if (!x2.2) then some (x1,0,53) else (ax9 x2.1).bind fun x4 => if (!decide (x4.2.2 = 0)) then some (x1,0,x4.2.2) else (ar8 x4.1 [112,114,111,116,111]).bind fun x6 => (aX4 x4.1).bind fun x7 => (aA4 x4.1 [112,114,111,116,111]).bind fun x8 => (aA4 x8 [114,111,108,101]).bind fun x9 => (aK1 a x9).bind fun x10 => if (!x6.2) then some (x1,0,53) else if (!x7.2) then some (x1,0,1) else if (!x10.2) then some (x1,0,52) else if (decide (9007199254740991 ≤ a.Count)) then some (x1,0,22) else (a79 a.Count 10).bind fun x15 => (a77 a.Seed x15).bind fun x16 => (aX5 x6.1 x7.1 x10.1 x16).bind fun x17 => if (!decide (x17.2 = 0)) then some (x1,0,x17.2) else (ad9 a.Convs i).bind fun x19 => (ad9 x1.Convs i).bind fun x20 => some ({x1 with Convs := List.set x1.Convs (Int.toNat i) {x17.1 with Id := x19.Id},Count := IntKind.wrap .i64 (x1.Count + 1)},(List.length data : Int),0)
def as1 (c : aa3) (n : Int) (p2 : Bool) : Option Int :=
  if p2 then some 0 else if ((decide (c.Proto = [109,117,116,117,97,108])) && (decide (n = 0))) then (ad3 (aa4.mk c) [117,115,101,114]).bind fun x7 => (ao9 x7).bind fun x8 => some (List.length x8 : Int) else some (-1)
def au7 (c : aa3) (n : Int) : Option Int :=
  if ((decide (c.Proto = [99,104,97,108])) && (decide (n = 0))) then as1 c n ((decide (c.Proto = [99,104,97,108])) && (decide (n = 0))) else as1 c n ((decide (c.Proto = [109,117,116,117,97,108])) && (decide (n = 1)))
def ap9 (c : aa3) (s_ : Str) (p4 : aa3) : Option (aa3 × Int) :=
  (au7 c c.Step).bind fun x5 => (if (decide (0 ≤ x5)) then if (!decide ((List.length p4.Peer : Int) = 32)) then some true else if (decide ((aa4.mk p4).Conv.Proto = [99,104,97,108])) then (aj8 (aa4.mk p4) c.Step).bind fun x9 => some (!decide (x9 = s_)) else if (decide ((aa4.mk p4).Conv.Proto = [109,117,116,117,97,108])) then (ai0 (aa4.mk p4) c.Step).bind fun x11 => some (!decide (x11 = s_)) else (ai9 (aa4.mk p4) c.Step).bind fun x12 => some (!decide (x12 = s_)) else if (decide ((aa4.mk p4).Conv.Proto = [99,104,97,108])) then (aj8 (aa4.mk p4) c.Step).bind fun x14 => some (!decide (x14 = s_)) else if (decide ((aa4.mk p4).Conv.Proto = [109,117,116,117,97,108])) then (ai0 (aa4.mk p4) c.Step).bind fun x16 => some (!decide (x16 = s_)) else (ai9 (aa4.mk p4) c.Step).bind fun x17 => some (!decide (x17 = s_))).bind fun t18 => if t18 then (an0 c).bind fun x20 => some ({x20 with Phase := 4,Err := 28},28) else (am4 {p4 with Step := IntKind.wrap .i64 (p4.Step + 1)}).bind fun x21 => some (x21,0)
def aX6 (c : aa3) (s_ : Str) : Option (aa3 × Int) :=
  if (!decide (c.Phase = 2)) then (an0 c).bind fun x2 => some (x2,53) else (au7 c c.Step).bind fun x22 => if ((decide (0 ≤ x22)) && (decide ((IntKind.wrap .i64 (x22 + 32)) ≤ (List.length s_ : Int)))) then (cut s_ x22 (IntKind.wrap .i64 (x22 + 32))).bind fun x26 => ap9 c s_ {c with Peer := x26} else ap9 c s_ c
def az7 (data : Str) (x1 : aa2) (x3 : (aa3 × Int)) (p5 : (List aa3)) : Option (aa2 × Int × Int) :=
  if (!decide (x3.2 = 0)) then some ({x1 with Convs := p5},0,x3.2) else some ({x1 with Convs := p5},(List.length data : Int),0)
def ay5 (a : aa2) (i : Int) (data : Str) : Option (aa2 × Int × Int) :=
  (af4 a).bind fun x1 => (ad9 a.Convs i).bind fun x2 => (aX6 x2 data).bind fun x3 => if ((decide (x3.2 = 0)) || (decide (x3.2 = 28))) then (ad9 x1.Convs i).bind fun x10 => az7 data x1 x3 (List.set x1.Convs (Int.toNat i) x3.1) else az7 data x1 x3 x1.Convs
def ak3 (a : aa2) (id : Int) (data : Str) : Option (aa2 × Int × Int) :=
  (au5 a id).bind fun x1 => (am2 a id).bind fun x2 => if (!x2) then (af4 a).bind fun x4 => some (x4,0,8) else if (decide (id = 1)) then (af4 a).bind fun x6 => some (x6,0,10) else if ((decide (id = 3)) || (decide (id = 4))) then (af4 a).bind fun x10 => some (x10,0,11) else if (decide (id = 2)) then (az5 a data).bind fun x12 => some (x12.1,x12.2.1,x12.2.2) else (ad9 a.Convs x1).bind fun x13 => (as0 x13).bind fun x14 => if x14 then (aA6 a x1 data).bind fun x16 => some (x16.1,x16.2.1,x16.2.2) else (ay5 a x1 data).bind fun x17 => some (x17.1,x17.2.1,x17.2.2)
def ag1 (s : (List aa3)) (i j : Int) : Option (List aa3) := delL s i j
def ay6 (a : aa2) (id : Int) (mode : Int) : Option aa2 :=
  (af4 a).bind fun x1 => (au5 a id).bind fun x2 => if (decide (0 ≤ x2)) then (ag1 x1.Convs x2 (IntKind.wrap .i64 (x2 + 1))).bind fun x4 => some {x1 with Convs := x4} else some x1
def aT2 (o : (List aa1)) (a1 : (List aa1)) : Option Bool :=
  (aF4 o a1).bind fun x1 => some x1
def ad1 (s_ : (List (List aa1))) (f : (List aa1)) (v5 : Int) : Option (Step Int Int) :=
  if (decide (v5 < (List.length s_ : Int))) then (ad9 s_ v5).bind fun x8 => (aT2 x8 f).bind fun x9 => if x9 then some (.done v5) else some (.cont (IntKind.wrap .i64 (v5 + 1))) else some (.done (-1))
def ae6 (s_ : (List (List aa1))) (f : (List aa1)) : Option Int :=
  aa8 (fun s => ad1 s_ f s) 0
def ad2 (s_ : (List (List aa1))) (f : (List aa1)) : Option Bool :=
  (ae6 s_ f).bind fun x1 => some (decide (0 ≤ x1))
def az8 (a : aa2) (v9 : Int) : Option (Step Int Bool) :=
  if (decide (v9 < (List.length a.Keys : Int))) then (ad9 a.Keys v9).bind fun x12 => (aS8 x12).bind fun x13 => (if (!x13) then some true else (cut a.Keys 0 v9).bind fun x15 => (ad2 x15 x12).bind fun x16 => some x16).bind fun t17 => if t17 then some (.done false) else some (.cont (IntKind.wrap .i64 (v9 + 1))) else some (.done (decide ((List.length a.Keys : Int) ≤ 64)))
def aK2 (a : aa2) : Option Bool :=
  aa8 (fun s => az8 a s) 0
def aw4 (c : aa3) (v7 : Int) : Option (Step Int Bool) :=
  if (decide (v7 < c.Step)) then (au7 c v7).bind fun x10 => (if (decide (0 ≤ x10)) then (aJ9 c.Proto c.Role v7).bind fun x12 => some (!x12) else some false).bind fun t13 => if t13 then some (.done true) else some (.cont (IntKind.wrap .i64 (v7 + 1))) else some (.done false)
def aK3 (c : aa3) : Option Bool :=
  aa8 (fun s => aw4 c s) 0
def aD8 (c : aa3) : Option Bool :=
  (if (decide (c.Id < 0)) then some true else if (decide (1048575 < c.Id)) then some true else (ap5).bind fun x3 => (af6 x3 c.Proto).bind fun x4 => if (!x4) then some true else if (!decide (c.Role = 1)) then some (!decide (c.Role = 2)) else some false).bind fun t7 => if t7 then some false else (ay0 c.Key).bind fun x9 => (if (!decide (x9 = 0)) then some true else (aD7 c.Key).bind fun x11 => if (!x11) then some true else if (!decide ((List.length c.Own : Int) = 32)) then some true else if (decide (c.Step < 0)) then some true else (aF8 c.Proto).bind fun x15 => some (decide (x15 < c.Step))).bind fun t16 => if t16 then some false else (am4 c).bind fun x18 => (if (!((decide (c.Phase = 4)) && (decide (x18.Phase = 2)))) then if (!decide (c.Phase = x18.Phase)) then some true else if (!decide (c.User = x18.User)) then some true else if (!decide (((decide (c.Phase = 4)) && (decide (x18.Phase = 2))) = (decide (c.Err = 28)))) then some true else some (!decide (c.Err = 0)) else if (!decide (c.User = x18.User)) then some true else if (!decide (((decide (c.Phase = 4)) && (decide (x18.Phase = 2))) = (decide (c.Err = 28)))) then some true else some false).bind fun t27 => if t27 then some false else (aK3 c).bind fun x29 => if x29 then some (decide ((List.length c.Peer : Int) = 32)) else some (decide (c.Peer = []))
def aw5 (a : aa2) (v23 : Int) : Option (Step Int Bool) :=
  if (decide (v23 < (List.length a.Convs : Int))) then (ad9 a.Convs v23).bind fun x26 => (if (decide (x26.Id < 1)) then some true else if (decide (a.Next ≤ x26.Id)) then some true else if (decide (0 < v23)) then (ad9 a.Convs (IntKind.wrap .i64 (v23 - 1))).bind fun x30 => if (decide (x26.Id ≤ x30.Id)) then some true else (as0 x26).bind fun x32 => if (!x32) then (aD8 x26).bind fun x34 => some (!x34) else some false else (as0 x26).bind fun x35 => if (!x35) then (aD8 x26).bind fun x37 => some (!x37) else some false).bind fun t38 => if t38 then some (.done false) else some (.cont (IntKind.wrap .i64 (v23 + 1))) else some (.done true)
def as2 (a : aa2) : Option Bool :=
  if ((decide (a.Owner = [])) || ((decide (32 < (List.length a.Owner : Int))) || ((decide (1024 < (List.length a.Seed : Int))) || ((decide (a.Next < 1)) || ((decide (1048560 < a.Next)) || ((decide (a.Count < 0)) || (decide (9007199254740991 < a.Count)))))))) then some false else (if (decide (32 < (List.length a.Convs : Int))) then some true else if (decide (64 < (List.length a.Keys : Int))) then some true else (aK2 a).bind fun x11 => some (!x11)).bind fun t12 => if t12 then some false else aa8 (fun s => aw5 a s) 0
def ae8 : Option Bool :=
  (ao0 [97,100,109] [115]).bind fun x1 => (ag6 x1.1 [107,101,121,32,117,115,101,114,61,97,110,110,32,33,115,101,99,114,101,116,61,97,32,100,111,109,61,120]).bind fun x2 => (ag6 x2.1 [107,101,121,32,117,115,101,114,61,97,110,110]).bind fun x3 => (ag6 x2.1 [107,101,121,115]).bind fun x4 => (ah0 x2.1 2 0 100).bind fun x5 => (aq7 x5.1 [97,100,109] 4 2).bind fun x6 => (aq7 x6.1 [98,111,98] 4 2).bind fun x7 => (ah0 x6.1 x6.2.1 0 100).bind fun x8 => (ak3 x6.1 x6.2.1 [115,116,97,114,116,32,112,114,111,116,111,61,112,108,97,105,110,32,114,111,108,101,61,99,108,105,101,110,116,32,117,115,101,114,61,97,110,110]).bind fun x9 => (ah0 x9.1 x6.2.1 0 100).bind fun x10 => (ag6 x10.1 [100,101,108,107,101,121,32,117,115,101,114,61,97,110,110]).bind fun x11 => (ay6 x11.1 17 0).bind fun x12 => (if (decide (x1.2 = 0)) then if (decide (x2.2 = 0)) then if (decide (x3.2 = 52)) then if (decide (x4.2 = 54)) then if (decide (x5.2.1 = [107,101,121,32,117,115,101,114,61,97,110,110,32,100,111,109,61,120,10])) then if (decide (x5.2.2 = 0)) then if (decide (x6.2.1 = 17)) then if (decide (x6.2.2 = 0)) then if (decide (x7.2.2 = 11)) then if (decide (x8.2.2 = 53)) then if (decide (x9.2.1 = 38)) then if (decide (x9.2.2 = 0)) then if (decide (x9.1.Count = 1)) then if (decide (x10.2.1 = [3,0,97,110,110,1,0,97])) then if (decide (x10.2.2 = 0)) then if (decide (x11.2 = 0)) then if (decide ((List.length x11.1.Keys : Int) = 0)) then if (decide ((List.length x12.Convs : Int) = 0)) then (as2 x12).bind fun x31 => some x31 else some false else some false else some false else some false else some false else some false else some false else some false else some false else some false else some false else some false else some false else some false else some false else some false else some false else some false).bind fun t32 => some t32
def aN5 (line : Str) (bw8 : Str) : Option (Str × Bool) :=
  (if (decide ((List.length line : Int) < (IntKind.wrap .i64 ((List.length bw8 : Int) + 1)))) then some true else (cut line 0 (IntKind.wrap .i64 ((List.length bw8 : Int) + 1))).bind fun x2 => (am8 bw8 [32]).bind fun x3 => some (!decide (x2 = x3))).bind fun t4 => if t4 then some ([],false) else (cut line (IntKind.wrap .i64 ((List.length bw8 : Int) + 1)) (List.length line : Int)).bind fun x6 => some (x6,true)
def aN6 (c : Int) : Option Bool :=
  some ((decide (c = 32)) || (decide (c = 9)))
def aX7 (s_ : Str) (at_ : Int) : Option Bool :=
  (if (decide (at_ = (List.length s_ : Int))) then some true else (ah3 s_ at_).bind fun c2 => (aN6 (c2.toNat : Int)).bind fun x3 => some x3).bind fun t4 => some t4
def aP3 (s_ : Str) (at__1 : Int) (out : Str) : Option (Step (Int × Str) (Str × Int × Int)) :=
  if (decide (at__1 < (List.length s_ : Int))) then (ah3 s_ at__1).bind fun c15 => if (!decide ((c15.toNat : Int) = 39)) then (cut s_ at__1 (IntKind.wrap .i64 (at__1 + 1))).bind fun x17 => (am8 out x17).bind fun x18 => some (.cont ((IntKind.wrap .i64 (at__1 + 1)),x18)) else (if (decide ((IntKind.wrap .i64 (at__1 + 1)) = (List.length s_ : Int))) then some true else (ah3 s_ (IntKind.wrap .i64 (at__1 + 1))).bind fun c20 => some (!decide ((c20.toNat : Int) = 39))).bind fun t21 => if t21 then some (.done (out,(IntKind.wrap .i64 (at__1 + 1)),0)) else (am8 out [39]).bind fun x23 => some (.cont ((IntKind.wrap .i64 (at__1 + 2)),x23)) else some (.done ([],at__1,48))
def bg0 (s_ : Str) (at_ : Int) : Option (Str × Int × Int) :=
  aa8 (fun s => aP3 s_ s.1 s.2) (at_,[])
def aI6 (x25 : Str) (x40 : (Str × Int × Int)) (p42 : Int) : Option (aa1 × Int × Int) :=
  some ((aa1.mk x25 x40.1 false),x40.2.1,p42)
def a02 (s_ : Str) (at__1 : Int) (x25 : Str) (at__2 : Int) : Option (aa1 × Int × Int) :=
  (cut s_ (IntKind.wrap .i64 (at__1 + 1)) at__2).bind fun x57 => some ((aa1.mk x25 x57 false),at__2,0)
def a03 (s_ : Str) (at__1 : Int) (x25 : Str) (at__2 : Int) : Option (Step Int (aa1 × Int × Int)) :=
  (aX7 s_ at__2).bind fun x53 => if (!x53) then (ah3 s_ at__2).bind fun c55 => if (decide ((c55.toNat : Int) = 39)) then some (.done ((aa1.mk x25 [] false),at__2,2)) else some (.cont (IntKind.wrap .i64 (at__2 + 1))) else (a02 s_ at__1 x25 at__2).map .done
def a04 (s_ : Str) (at_ : Int) (at__1 : Int) : Option (aa1 × Int × Int) :=
  (cut s_ at_ at__1).bind fun x25 => (if (decide (at__1 < (List.length s_ : Int))) then (ah3 s_ at__1).bind fun c27 => if (decide ((c27.toNat : Int) = 63)) then (aX7 s_ (IntKind.wrap .i64 (at__1 + 1))).bind fun x29 => some x29 else some false else some false).bind fun t30 => if t30 then some ((aa1.mk x25 [] true),(IntKind.wrap .i64 (at__1 + 1)),0) else (if (decide (at__1 = (List.length s_ : Int))) then some true else (ah3 s_ at__1).bind fun c33 => some (!decide ((c33.toNat : Int) = 61))).bind fun t34 => if t34 then some ((aa1.mk x25 [] false),at__1,2) else (if (decide ((IntKind.wrap .i64 (at__1 + 1)) < (List.length s_ : Int))) then (ah3 s_ (IntKind.wrap .i64 (at__1 + 1))).bind fun c37 => some (decide ((c37.toNat : Int) = 39)) else some false).bind fun t38 => if t38 then (bg0 s_ (IntKind.wrap .i64 ((IntKind.wrap .i64 (at__1 + 1)) + 1))).bind fun x40 => (if (decide (x40.2.2 = 0)) then (aX7 s_ x40.2.1).bind fun x44 => some (!x44) else some false).bind fun t45 => if t45 then aI6 x25 x40 2 else aI6 x25 x40 x40.2.2 else aa8 (fun s => a03 s_ at__1 x25 s) (IntKind.wrap .i64 (at__1 + 1))
def a05 (s_ : Str) (at_ : Int) (at__1 : Int) : Option (Step Int (aa1 × Int × Int)) :=
  (if (decide (at__1 < (List.length s_ : Int))) then (ah3 s_ at__1).bind fun c15 => (aN6 (c15.toNat : Int)).bind fun x16 => if (!x16) then (ah3 s_ at__1).bind fun c18 => if (!decide ((c18.toNat : Int) = 61)) then (ah3 s_ at__1).bind fun c20 => if (!decide ((c20.toNat : Int) = 63)) then (ah3 s_ at__1).bind fun c22 => some (!decide ((c22.toNat : Int) = 39)) else some false else some false else some false else some false).bind fun t23 => if t23 then some (.cont (IntKind.wrap .i64 (at__1 + 1))) else (a04 s_ at_ at__1).map .done
def bw3 (s_ : Str) (at_ : Int) : Option (aa1 × Int × Int) :=
  aa8 (fun s => a05 s_ at_ s) at_
def aG1 (out : (List aa1)) (at__1 : Int) (x38 : (aa1 × Int × Int)) (p40 : Int) : Option (Step (Int × (List aa1)) ((List aa1) × Int × Int)) :=
  if (!decide (p40 = 0)) then some (.done (([] : List aa1),at__1,p40)) else (aC2 40 out [x38.1]).bind fun x42 => some (.cont (x38.2.1,x42))
def aT3 (s_ : Str) (out : (List aa1)) (at__1 : Int) : Option (Step (Int × (List aa1)) ((List aa1) × Int × Int)) :=
  if (decide (at__1 = (List.length s_ : Int))) then some (.done (out,0,0)) else (bw3 s_ at__1).bind fun x38 => if (decide (x38.2.2 = 0)) then (bn9 out x38.1).bind fun x44 => aG1 out at__1 x38 x44 else aG1 out at__1 x38 x38.2.2
def aT4 (s_ : Str) (out : (List aa1)) (at__1 : Int) : Option (Step Int (Step (Int × (List aa1)) ((List aa1) × Int × Int))) :=
  (if (decide (at__1 < (List.length s_ : Int))) then (ah3 s_ at__1).bind fun c33 => (aN6 (c33.toNat : Int)).bind fun x34 => some x34 else some false).bind fun t35 => if t35 then some (.cont (IntKind.wrap .i64 (at__1 + 1))) else (aT3 s_ out at__1).map .done
def aT5 (s_ : Str) (at_ : Int) (out : (List aa1)) : Option (Step (Int × (List aa1)) ((List aa1) × Int × Int)) :=
  aa8 (fun s => aT4 s_ out s) at_
def aG2 (s_ : Str) : Option ((List aa1) × Int × Int) :=
  aa8 (fun s => aT5 s_ s.1 s.2) (0,([] : List aa1))
def aK4 (l : (List aa1)) (pattern : (List aa1)) (i : Int) : Option (Step Int Bool) :=
  if (decide (i < (List.length pattern : Int))) then (ad9 pattern i).bind fun x13 => (aD4 l x13.Name).bind fun x14 => (if (!x14.2) then some true else (ad9 pattern i).bind fun x16 => if (!x16.Query) then (ad9 pattern i).bind fun x18 => some (!decide (x14.1 = x18.Value)) else some false).bind fun t19 => if t19 then some (.done false) else some (.cont (IntKind.wrap .i64 (i + 1))) else some (.done true)
def aN7 (l : (List aa1)) (pattern : (List aa1)) : Option Bool :=
  aa8 (fun s => aK4 l pattern s) 0
def aK5 (a : aa2) (v25 : (List (List aa1))) : Option (aa2 × Int) :=
  if (decide ((List.length v25 : Int) = (List.length a.Keys : Int))) then some (a,52) else some ({a with Keys := v25},0)
def aK6 (a : aa2) (x16 : ((List aa1) × Int × Int)) (i : Int) (v25 : (List (List aa1))) : Option (Step (Int × (List (List aa1))) (aa2 × Int)) :=
  if (decide (i < (List.length a.Keys : Int))) then (ad9 a.Keys i).bind fun x28 => (aN7 x28 x16.1).bind fun x29 => if (!x29) then (ad9 a.Keys i).bind fun x31 => (aC2 24 v25 [x31]).bind fun x32 => some (.cont ((IntKind.wrap .i64 (i + 1)),x32)) else some (.cont ((IntKind.wrap .i64 (i + 1)),v25)) else (aK5 a v25).map .done
def aN8 (a : aa2) (line : Str) : Option (aa2 × Int) :=
  (aN5 line [107,101,121]).bind fun x1 => if x1.2 then (aG2 x1.1).bind fun x3 => if (!decide (x3.2.2 = 0)) then some (a,x3.2.2) else (aM7 x3.1).bind fun x5 => if (!x5) then some (a,52) else (aC2 24 ([] : List (List aa1)) a.Keys).bind fun x7 => (aA2 x3.1).bind fun x8 => (aM8 a.Keys x8).bind fun x9 => if (decide (0 ≤ x9)) then (ad9 x7 x9).bind fun x11 => some ({a with Keys := List.set x7 (Int.toNat x9) x3.1},0) else if (decide (64 ≤ (List.length a.Keys : Int))) then some (a,22) else (aC2 24 x7 [x3.1]).bind fun x13 => some ({a with Keys := x13},0) else (aN5 line [100,101,108,107,101,121]).bind fun x14 => if (!x14.2) then some (a,54) else (aG2 x14.1).bind fun x16 => if (!decide (x16.2.2 = 0)) then some (a,x16.2.2) else aa8 (fun s => aK6 a x16 s.1 s.2) (0,([] : List (List aa1)))
def ak4 (a : aa2) (b : aa2) (i_1 : Int) : Option (Step Int Bool) :=
  if (decide (i_1 < (List.length a.Convs : Int))) then (ad9 a.Convs i_1).bind fun x28 => (ad9 b.Convs i_1).bind fun x29 => (at2 x28 x29).bind fun x30 => if (!x30) then some (.done false) else some (.cont (IntKind.wrap .i64 (i_1 + 1))) else some (.done true)
def aq0 (a : aa2) (b : aa2) (i : Int) : Option (Step Int Bool) :=
  if (decide (i < (List.length a.Keys : Int))) then (ad9 a.Keys i).bind fun x16 => (ad9 b.Keys i).bind fun x17 => (au2 x16 x17).bind fun x18 => if (!x18) then some (.done false) else some (.cont (IntKind.wrap .i64 (i + 1))) else (aa8 (fun s => ak4 a b s) 0).map .done
def af7 (a : aa2) (b : aa2) : Option Bool :=
  if ((!decide (a.Owner = b.Owner)) || ((!decide (a.Seed = b.Seed)) || ((!decide (a.Next = b.Next)) || ((!decide (a.Count = b.Count)) || ((!decide ((List.length a.Keys : Int) = (List.length b.Keys : Int))) || (!decide ((List.length a.Convs : Int) = (List.length b.Convs : Int)))))))) then some false else aa8 (fun s => aq0 a b s) 0
def a80 (a : aa2) (id : Int) (i : Int) : Option (Step Int Int) :=
  if (decide (i < (List.length a.Convs : Int))) then (if (decide (16 < id)) then (ad9 a.Convs i).bind fun x10 => some (decide (x10.Id = (IntKind.wrap .i64 (id - 16)))) else some false).bind fun t11 => if t11 then some (.done i) else some (.cont (IntKind.wrap .i64 (i + 1))) else some (.done (-1))
def aD9 (a : aa2) (id : Int) : Option Int :=
  aa8 (fun s => a80 a id s) 0
def as3 (a : aa2) (id : Int) : Option Bool :=
  (if (decide (1 ≤ id)) then if (decide (id ≤ 4)) then some true else (aD9 a id).bind fun x3 => some (decide (0 ≤ x3)) else (aD9 a id).bind fun x4 => some (decide (0 ≤ x4))).bind fun t5 => some t5
def bw4 (a : aa2) (user : Str) (id : Int) (mode : Int) : Option (aa2 × Int × Int) :=
  (as3 a id).bind fun x1 => if (!x1) then some (a,0,8) else if ((decide (mode < 0)) || ((decide (83 < mode)) || ((decide (3 < (Int.tmod mode 16))) || (decide (1 < (Int.tmod (IntKind.wrap .i64 (Int.tdiv mode 16)) 4)))))) then some (a,0,12) else if ((decide (id = 1)) && (!decide (mode = 0))) then some (a,0,10) else if (bif (decide (id = 3)) then ((!decide ((Int.tmod mode 64) = 0)) || ((!decide (id = 1)) && ((!decide (id = 3)) && ((!decide (user = a.Owner)) || (decide ((Int.tmod mode 16) = 3)))))) else ((!decide (id = 1)) && ((!decide (id = 3)) && ((!decide (user = a.Owner)) || (decide ((Int.tmod mode 16) = 3)))))) then some (a,0,11) else if (!decide (id = 4)) then some (a,id,0) else if ((decide (32 ≤ (List.length a.Convs : Int))) || (decide (1048560 ≤ a.Next))) then some (a,0,22) else (aC2 128 ([] : List aa3) a.Convs).bind fun x25 => (aC2 128 x25 [(aa3.mk a.Next [] 0 0 0 ([] : List aa1) [] [] [] 0)]).bind fun x26 => some ({a with Next := IntKind.wrap .i64 (a.Next + 1),Convs := x26},(IntKind.wrap .i64 (16 + a.Next)),0)
def aT6 (s_ : Str) (out : Str) (odd : Bool) : Option Str :=
  if odd then (am8 [39] out).bind fun x32 => (am8 x32 [39]).bind fun x33 => some x33 else some s_
def aT7 (s_ : Str) (out : Str) (odd : Bool) (i : Int) : Option (Step (Str × Bool × Int) Str) :=
  if (decide (i < (List.length s_ : Int))) then (if odd then some true else (ah3 s_ i).bind fun c20 => if (decide ((c20.toNat : Int) = 32)) then some true else (ah3 s_ i).bind fun c22 => if (decide ((c22.toNat : Int) = 9)) then some true else (ah3 s_ i).bind fun c24 => some (decide ((c24.toNat : Int) = 39))).bind fun t25 => (cut s_ i (IntKind.wrap .i64 (i + 1))).bind fun x26 => (am8 out x26).bind fun x27 => (ah3 s_ i).bind fun c28 => if (decide ((c28.toNat : Int) = 39)) then (am8 x27 [39]).bind fun x30 => some (.cont (x30,t25,(IntKind.wrap .i64 (i + 1)))) else some (.cont (x27,t25,(IntKind.wrap .i64 (i + 1)))) else (aT6 s_ out odd).map .done
def bo2 (s_ : Str) : Option Str :=
  aa8 (fun s => aT7 s_ s.1 s.2.1 s.2.2) ([],(decide (s_ = [])),0)
def aG3 (l : (List aa1)) (i : Int) (p20 : Str) : Option (Step (Str × Int) (Str × Int)) :=
  (ad9 l i).bind fun x21 => if x21.Query then (ad9 l i).bind fun x23 => (am8 p20 x23.Name).bind fun x24 => (am8 x24 [63]).bind fun x25 => some (.cont (x25,(IntKind.wrap .i64 (i + 1)))) else (ad9 l i).bind fun x26 => (am8 p20 x26.Name).bind fun x27 => (am8 x27 [61]).bind fun x28 => (ad9 l i).bind fun x29 => (bo2 x29.Value).bind fun x30 => (am8 x28 x30).bind fun x31 => some (.cont (x31,(IntKind.wrap .i64 (i + 1))))
def aT8 (l : (List aa1)) (s_ : Str) (i : Int) : Option (Step (Str × Int) (Str × Int)) :=
  if (decide (i < (List.length l : Int))) then if (decide (0 < i)) then (am8 s_ [32]).bind fun x33 => aG3 l i x33 else aG3 l i s_ else some (.done (s_,0))
def bo3 (l : (List aa1)) : Option (Str × Int) :=
  (aM6 l).bind fun x1 => if (!decide (x1 = 0)) then some ([],x1) else aa8 (fun s => aT8 l s.1 s.2) ([],0)
def bg1 : Option (List Str) :=
  some [[99,104,97,108],[109,117,116,117,97,108],[112,108,97,105,110]]
def aH4 (x4 : (List Str)) (s__1 : Str) (i_1 : Int) : Option (Step (Str × Int) Str) :=
  if (decide (i_1 < (List.length x4 : Int))) then (ad9 x4 i_1).bind fun x13 => (am8 s__1 x13).bind fun x14 => (am8 x14 [10]).bind fun x15 => some (.cont (x15,(IntKind.wrap .i64 (i_1 + 1)))) else some (.done s__1)
def ay7 (id : Int) (p2 : Str) : Option Str :=
  if (decide (id = 3)) then (bg1).bind fun x4 => aa8 (fun s => aH4 x4 s.1 s.2) (p2,0) else some p2
def aH5 (a : aa2) (id : Int) (s__2 : Str) (i_2 : Int) : Option (Step (Str × Int) Str) :=
  if (decide (i_2 < (List.length a.Keys : Int))) then (ad9 a.Keys i_2).bind fun x28 => (aA2 x28).bind fun x29 => (bo3 x29).bind fun x30 => (am8 s__2 [107,101,121,32]).bind fun x31 => (am8 x31 x30.1).bind fun x32 => (am8 x32 [10]).bind fun x33 => some (.cont (x33,(IntKind.wrap .i64 (i_2 + 1)))) else (ay7 id s__2).map .done
def a06 (a : aa2) (id : Int) : Option Str :=
  if (decide (id = 2)) then aa8 (fun s => aH5 a id s.1 s.2) ([],0) else ay7 id []
def bo4 (width : Int) : Option Bool :=
  some ((decide (1 ≤ width)) && (decide (width ≤ 8)))
def a81 (s_ : Str) (left : Int) : Option (Str × Int) :=
  if (!decide (left = 0)) then some ([],5) else some (s_,0)
def a82 (width : Int) (s_ : Str) (left : Int) (i : Int) : Option (Step (Str × Int × Int) (Str × Int)) :=
  if ((decide (i < width)) && (decide (0 ≤ left))) then (am8 s_ ([UInt8.ofNat (Int.toNat (IntKind.wrap .u8 (Int.tmod left 256)))] : Str)).bind fun x14 => some (.cont (x14,(IntKind.wrap .i64 (Int.tdiv left 256)),(IntKind.wrap .i64 (i + 1)))) else (a81 s_ left).map .done
def bo5 (n : Int) (width : Int) : Option (Str × Int) :=
  (bo4 width).bind fun x1 => if (!x1) then some ([],1) else aa8 (fun s => a82 width s.1 s.2.1 s.2.2) ([],n,0)
def a83 (s_ : Str) : Option (Str × Int) :=
  (bo5 (List.length s_ : Int) 2).bind fun x1 => if (!decide (x1.2 = 0)) then some ([],4) else (am8 x1.1 s_).bind fun x3 => some (x3,0)
def aT9 (s_ : Str) : Option Str :=
  (a83 s_).bind fun x1 => some x1.1
def bg2 (n : Int) (x__1 : Int) (s_ : Str) (i : Int) : Option (Step (Int × Str × Int) Str) :=
  if (decide (i < n)) then (am8 ([UInt8.ofNat (Int.toNat (IntKind.wrap .u8 (Int.tmod x__1 256)))] : Str) s_).bind fun x8 => some (.cont ((IntKind.wrap .u64 (Int.tdiv x__1 256)),x8,(IntKind.wrap .i64 (i + 1)))) else some (.done s_)
def a84 (x_ : Int) (n : Int) : Option Str :=
  aa8 (fun s => bg2 n s.1 s.2.1 s.2.2) (x_,[],0)
def aP4 (s_ : Str) (t_ : Str) : Option Str :=
  (a84 (IntKind.wrap .u64 ((IntKind.wrap .u64 (List.length s_ : Int)) * 8)) 8).bind fun x8 => (am8 t_ x8).bind fun x9 => some x9
def aU0 (s_ : Str) (t_ : Str) : Option (Step Str Str) :=
  if (!decide ((Int.tmod (List.length t_ : Int) 64) = 56)) then (am8 t_ [0]).bind fun x7 => some (.cont x7) else (aP4 s_ t_).map .done
def bg3 (s_ : Str) : Option Str :=
  (am8 s_ [128]).bind fun x1 => aa8 (fun s => aU0 s_ s) x1
def aU1 : Option (List Int) :=
  some [1116352408,1899447441,3049323471,3921009573,961987163,1508970993,2453635748,2870763221,3624381080,310598401,607225278,1426881987,1925078388,2162078206,2614888103,3248222580,3835390401,4022224774,264347078,604807628,770255983,1249150122,1555081692,1996064986,2554220882,2821834349,2952996808,3210313671,3336571891,3584528711,113926993,338241895,666307205,773529912,1294757372,1396182291,1695183700,1986661051,2177026350,2456956037,2730485921,2820302411,3259730800,3345764771,3516065817,3600352804,4094571909,275423344,430227734,506948616,659060556,883997877,958139571,1322822218,1537002063,1747873779,1955562222,2024104815,2227730452,2361852424,2428436474,2756734187,3204031479,3329325298]
def ao5 (x_ : Int) (n : Int) : Option Int :=
  (bm4 .u32 x_ n).bind fun x1 => (b19 .u32 x_ (IntKind.wrap .i64 (32 - n))).bind fun x2 => some (IntKind.wrap .u32 ((BitVec.ofInt (IntKind.bits .u32) x1 ||| (BitVec.ofInt (IntKind.bits .u32) x2)).toNat : Nat))
def aH6 (i_1 : Int) (w_1 : (List Int)) : Option (Step (Int × (List Int)) (List Int)) :=
  if (decide (i_1 < 64)) then (ad9 w_1 (IntKind.wrap .i64 (i_1 - 15))).bind fun x36 => (ad9 w_1 (IntKind.wrap .i64 (i_1 - 2))).bind fun x37 => (ao5 x36 7).bind fun x38 => (ao5 x36 18).bind fun x39 => (bm4 .u32 x36 3).bind fun x40 => (ao5 x37 17).bind fun x41 => (ao5 x37 19).bind fun x42 => (bm4 .u32 x37 10).bind fun x43 => (ad9 w_1 (IntKind.wrap .i64 (i_1 - 16))).bind fun x44 => (ad9 w_1 (IntKind.wrap .i64 (i_1 - 7))).bind fun x45 => (aC2 4 w_1 [(IntKind.wrap .u32 ((IntKind.wrap .u32 ((IntKind.wrap .u32 (x44 + (IntKind.wrap .u32 ((BitVec.ofInt (IntKind.bits .u32) (IntKind.wrap .u32 ((BitVec.ofInt (IntKind.bits .u32) x38 ^^^ (BitVec.ofInt (IntKind.bits .u32) x39)).toNat : Nat)) ^^^ (BitVec.ofInt (IntKind.bits .u32) x40)).toNat : Nat)))) + x45)) + (IntKind.wrap .u32 ((BitVec.ofInt (IntKind.bits .u32) (IntKind.wrap .u32 ((BitVec.ofInt (IntKind.bits .u32) x41 ^^^ (BitVec.ofInt (IntKind.bits .u32) x42)).toNat : Nat)) ^^^ (BitVec.ofInt (IntKind.bits .u32) x43)).toNat : Nat))))]).bind fun x46 => some (.cont ((IntKind.wrap .i64 (i_1 + 1)),x46)) else some (.done w_1)
def aH7 (b : Str) (i : Int) (w : (List Int)) : Option (Step (Int × (List Int)) (List Int)) :=
  if (decide (i < 16)) then (ah3 b (IntKind.wrap .i64 (4 * i))).bind fun c13 => (b19 .u32 (IntKind.wrap .u32 (c13.toNat : Int)) 24).bind fun x14 => (ah3 b (IntKind.wrap .i64 ((IntKind.wrap .i64 (4 * i)) + 1))).bind fun c15 => (b19 .u32 (IntKind.wrap .u32 (c15.toNat : Int)) 16).bind fun x16 => (ah3 b (IntKind.wrap .i64 ((IntKind.wrap .i64 (4 * i)) + 2))).bind fun c17 => (b19 .u32 (IntKind.wrap .u32 (c17.toNat : Int)) 8).bind fun x18 => (ah3 b (IntKind.wrap .i64 ((IntKind.wrap .i64 (4 * i)) + 3))).bind fun c19 => (aC2 4 w [(IntKind.wrap .u32 ((BitVec.ofInt (IntKind.bits .u32) (IntKind.wrap .u32 ((BitVec.ofInt (IntKind.bits .u32) (IntKind.wrap .u32 ((BitVec.ofInt (IntKind.bits .u32) x14 ||| (BitVec.ofInt (IntKind.bits .u32) x16)).toNat : Nat)) ||| (BitVec.ofInt (IntKind.bits .u32) x18)).toNat : Nat)) ||| (BitVec.ofInt (IntKind.bits .u32) (IntKind.wrap .u32 (c19.toNat : Int)))).toNat : Nat))]).bind fun x20 => some (.cont ((IntKind.wrap .i64 (i + 1)),x20)) else (aa8 (fun s => aH6 s.1 s.2) (16,w)).map .done
def a07 (b : Str) : Option (List Int) :=
  aa8 (fun s => aH7 b s.1 s.2) (0,([] : List Int))
def aU2 (words : (List Int)) (a : Int) (b : Int) (c : Int) (d : Int) (e : Int) (f : Int) (g : Int) (h_ : Int) : Option (List Int) :=
  (ad9 words 0).bind fun x38 => (ad9 words 1).bind fun x39 => (ad9 words 2).bind fun x40 => (ad9 words 3).bind fun x41 => (ad9 words 4).bind fun x42 => (ad9 words 5).bind fun x43 => (ad9 words 6).bind fun x44 => (ad9 words 7).bind fun x45 => some [(IntKind.wrap .u32 (x38 + a)),(IntKind.wrap .u32 (x39 + b)),(IntKind.wrap .u32 (x40 + c)),(IntKind.wrap .u32 (x41 + d)),(IntKind.wrap .u32 (x42 + e)),(IntKind.wrap .u32 (x43 + f)),(IntKind.wrap .u32 (x44 + g)),(IntKind.wrap .u32 (x45 + h_))]
def aU3 (words : (List Int)) (x1 : (List Int)) (x2 : (List Int)) (a : Int) (b : Int) (c : Int) (d : Int) (e : Int) (f : Int) (g : Int) (h_ : Int) (i : Int) : Option (Step (Int × Int × Int × Int × Int × Int × Int × Int × Int) (List Int)) :=
  if (decide (i < 64)) then (ao5 e 6).bind fun x30 => (ao5 e 11).bind fun x31 => (ao5 e 25).bind fun x32 => (ad9 x1 i).bind fun x33 => (ad9 x2 i).bind fun x34 => (ao5 a 2).bind fun x35 => (ao5 a 13).bind fun x36 => (ao5 a 22).bind fun x37 => some (.cont ((IntKind.wrap .u32 ((IntKind.wrap .u32 ((IntKind.wrap .u32 ((IntKind.wrap .u32 ((IntKind.wrap .u32 (h_ + (IntKind.wrap .u32 ((BitVec.ofInt (IntKind.bits .u32) (IntKind.wrap .u32 ((BitVec.ofInt (IntKind.bits .u32) x30 ^^^ (BitVec.ofInt (IntKind.bits .u32) x31)).toNat : Nat)) ^^^ (BitVec.ofInt (IntKind.bits .u32) x32)).toNat : Nat)))) + (IntKind.wrap .u32 ((BitVec.ofInt (IntKind.bits .u32) (IntKind.wrap .u32 ((BitVec.ofInt (IntKind.bits .u32) e &&& (BitVec.ofInt (IntKind.bits .u32) f)).toNat : Nat)) ^^^ (BitVec.ofInt (IntKind.bits .u32) (IntKind.wrap .u32 ((BitVec.ofInt (IntKind.bits .u32) (notI .u32 e) &&& (BitVec.ofInt (IntKind.bits .u32) g)).toNat : Nat)))).toNat : Nat)))) + x33)) + x34)) + (IntKind.wrap .u32 ((IntKind.wrap .u32 ((BitVec.ofInt (IntKind.bits .u32) (IntKind.wrap .u32 ((BitVec.ofInt (IntKind.bits .u32) x35 ^^^ (BitVec.ofInt (IntKind.bits .u32) x36)).toNat : Nat)) ^^^ (BitVec.ofInt (IntKind.bits .u32) x37)).toNat : Nat)) + (IntKind.wrap .u32 ((BitVec.ofInt (IntKind.bits .u32) (IntKind.wrap .u32 ((BitVec.ofInt (IntKind.bits .u32) (IntKind.wrap .u32 ((BitVec.ofInt (IntKind.bits .u32) a &&& (BitVec.ofInt (IntKind.bits .u32) b)).toNat : Nat)) ^^^ (BitVec.ofInt (IntKind.bits .u32) (IntKind.wrap .u32 ((BitVec.ofInt (IntKind.bits .u32) a &&& (BitVec.ofInt (IntKind.bits .u32) c)).toNat : Nat)))).toNat : Nat)) ^^^ (BitVec.ofInt (IntKind.bits .u32) (IntKind.wrap .u32 ((BitVec.ofInt (IntKind.bits .u32) b &&& (BitVec.ofInt (IntKind.bits .u32) c)).toNat : Nat)))).toNat : Nat)))))),a,b,c,(IntKind.wrap .u32 (d + (IntKind.wrap .u32 ((IntKind.wrap .u32 ((IntKind.wrap .u32 ((IntKind.wrap .u32 (h_ + (IntKind.wrap .u32 ((BitVec.ofInt (IntKind.bits .u32) (IntKind.wrap .u32 ((BitVec.ofInt (IntKind.bits .u32) x30 ^^^ (BitVec.ofInt (IntKind.bits .u32) x31)).toNat : Nat)) ^^^ (BitVec.ofInt (IntKind.bits .u32) x32)).toNat : Nat)))) + (IntKind.wrap .u32 ((BitVec.ofInt (IntKind.bits .u32) (IntKind.wrap .u32 ((BitVec.ofInt (IntKind.bits .u32) e &&& (BitVec.ofInt (IntKind.bits .u32) f)).toNat : Nat)) ^^^ (BitVec.ofInt (IntKind.bits .u32) (IntKind.wrap .u32 ((BitVec.ofInt (IntKind.bits .u32) (notI .u32 e) &&& (BitVec.ofInt (IntKind.bits .u32) g)).toNat : Nat)))).toNat : Nat)))) + x33)) + x34)))),e,f,g,(IntKind.wrap .i64 (i + 1)))) else (aU2 words a b c d e f g h_).map .done
def bo6 (words : (List Int)) (p : Str) : Option (List Int) :=
  (aU1).bind fun x1 => (a07 p).bind fun x2 => (ad9 words 0).bind fun x3 => (ad9 words 1).bind fun x4 => (ad9 words 2).bind fun x5 => (ad9 words 3).bind fun x6 => (ad9 words 4).bind fun x7 => (ad9 words 5).bind fun x8 => (ad9 words 6).bind fun x9 => (ad9 words 7).bind fun x10 => aa8 (fun s => aU3 words x1 x2 s.1 s.2.1 s.2.2.1 s.2.2.2.1 s.2.2.2.2.1 s.2.2.2.2.2.1 s.2.2.2.2.2.2.1 s.2.2.2.2.2.2.2.1 s.2.2.2.2.2.2.2.2) (x3,x4,x5,x6,x7,x8,x9,x10,0)
def a85 (h_ : (List Int)) (out : Str) (i_1 : Int) : Option (Step (Str × Int) Str) :=
  if (decide (i_1 < 8)) then (ad9 h_ i_1).bind fun x18 => (a84 (IntKind.wrap .u64 x18) 4).bind fun x19 => (am8 out x19).bind fun x20 => some (.cont (x20,(IntKind.wrap .i64 (i_1 + 1)))) else some (.done out)
def bg4 (x1 : Str) (i : Int) (h_ : (List Int)) : Option (Step (Int × (List Int)) Str) :=
  if (decide (i < (List.length x1 : Int))) then (cut x1 i (IntKind.wrap .i64 (i + 64))).bind fun x9 => (bo6 h_ x9).bind fun x10 => some (.cont ((IntKind.wrap .i64 (i + 64)),x10)) else (aa8 (fun s => a85 h_ s.1 s.2) ([],0)).map .done
def a86 (s_ : Str) : Option Str :=
  (bg3 s_).bind fun x1 => aa8 (fun s => bg4 x1 s.1 s.2) (0,[1779033703,3144134277,1013904242,2773480762,1359893119,2600822924,528734635,1541459225])
def aw6 (x_ : Int) (i : Int) (b : (List Int)) (p11 : Int) : Option (Step (Int × (List Int)) Str) :=
  (aC2 1 b [(IntKind.wrap .u8 ((BitVec.ofInt (IntKind.bits .u8) p11 ^^^ (BitVec.ofInt (IntKind.bits .u8) x_)).toNat : Nat))]).bind fun x12 => some (.cont ((IntKind.wrap .i64 (i + 1)),x12))
def aK7 (key : Str) (x_ : Int) (i : Int) (b : (List Int)) : Option (Step (Int × (List Int)) Str) :=
  if (decide (i < 64)) then if (decide (i < (List.length key : Int))) then (ah3 key i).bind fun c14 => aw6 x_ i b (c14.toNat : Int) else aw6 x_ i b 0 else some (.done (bA2 b))
def az9 (key : Str) (x_ : Int) : Option Str :=
  aa8 (fun s => aK7 key x_ s.1 s.2) (0,([] : List Int))
def aU4 (s_ : Str) (p2 : Str) : Option Str :=
  (az9 p2 92).bind fun x3 => (az9 p2 54).bind fun x4 => (am8 x4 s_).bind fun x5 => (a86 x5).bind fun x6 => (am8 x3 x6).bind fun x7 => (a86 x7).bind fun x8 => some x8
def aU5 (key : Str) (s_ : Str) : Option Str :=
  if (decide (64 < (List.length key : Int))) then (a86 key).bind fun x10 => aU4 s_ x10 else aU4 s_ key
def bc6 (c : aa3) (k : Int) (client : Str) (server : Str) : Option Str :=
  (au3 c.Key).bind fun x1 => (aI4 c.Key).bind fun x2 => if ((decide (c.Proto = [112,108,97,105,110])) && (decide (k = 0))) then (aT9 x1).bind fun x6 => (aT9 x2).bind fun x7 => (am8 x6 x7).bind fun x8 => some x8 else if ((decide (c.Proto = [99,104,97,108])) && (decide (k = 0))) then some server else if ((decide (c.Proto = [99,104,97,108])) && (decide (k = 1))) then (aT9 x1).bind fun x15 => (aU5 x2 server).bind fun x16 => (am8 x15 x16).bind fun x17 => some x17 else if ((decide (c.Proto = [109,117,116,117,97,108])) && (decide (k = 0))) then (aT9 x1).bind fun x21 => (am8 x21 client).bind fun x22 => some x22 else if ((decide (c.Proto = [109,117,116,117,97,108])) && (decide (k = 1))) then (am8 [115,101,114,118,101,114] client).bind fun x26 => (am8 x26 server).bind fun x27 => (aU5 x2 x27).bind fun x28 => (am8 server x28).bind fun x29 => some x29 else if ((decide (c.Proto = [109,117,116,117,97,108])) && (decide (k = 2))) then (am8 [99,108,105,101,110,116] client).bind fun x33 => (am8 x33 server).bind fun x34 => (aU5 x2 x34).bind fun x35 => some x35 else some [111,107]
def aU6 (c : aa3) (peer : Str) : Option Str :=
  if (decide (c.Role = 1)) then (bc6 c c.Step c.Own peer).bind fun x2 => some x2 else (bc6 c c.Step peer c.Own).bind fun x3 => some x3
def aC9 (c : aa3) : Option aa3 :=
  (a35 c).bind fun x1 => if (decide (x1 = 3)) then (au3 c.Key).bind fun x3 => some {c with Phase := x1,User := x3} else some {c with Phase := x1}
def bw5 (c : aa3) : Option (aa3 × Str × Int) :=
  if (!decide (c.Phase = 1)) then some (c,[],53) else (aU6 c c.Peer).bind fun x2 => (aC9 {c with Step := IntKind.wrap .i64 (c.Step + 1)}).bind fun x3 => some (x3,x2,0)
def aU7 (a : aa2) (i : Int) (c : aa3) : Option aa2 :=
  (aC2 128 ([] : List aa3) a.Convs).bind fun x1 => (ad9 x1 i).bind fun x2 => some {a with Convs := List.set x1 (Int.toNat i) c}
def aX8 (a : aa2) (id : Int) (offset : Int) (count : Int) : Option (aa2 × Str × Int) :=
  (as3 a id).bind fun x1 => if (!x1) then some (a,[],8) else if (decide (id = 1)) then some (a,[],10) else if ((decide (offset < 0)) || (decide (count < 0))) then some (a,[],1) else (aD9 a id).bind fun x7 => if (decide (x7 < 0)) then (a06 a id).bind fun x9 => (cut x9 (min offset (List.length x9 : Int)) (IntKind.wrap .i64 ((min offset (List.length x9 : Int)) + (min (min count 65536) (IntKind.wrap .i64 ((List.length x9 : Int) - (min offset (List.length x9 : Int)))))))).bind fun x10 => some (a,x10,0) else (ad9 a.Convs x7).bind fun x11 => (aF0 x11).bind fun x12 => if x12 then some (a,[],53) else (ad9 a.Convs x7).bind fun x14 => (bw5 x14).bind fun x15 => if (!decide (x15.2.2 = 0)) then some (a,[],x15.2.2) else if (decide ((min count 65536) < (List.length x15.2.1 : Int))) then some (a,[],3) else (aU7 a x7 x15.1).bind fun x18 => some (x18,x15.2.1,0)
def aH8 (a : aa2) (data : Str) (from_ : Int) (i : Int) (v19 : aa2) : Option (Step (Int × Int × aa2) (aa2 × Int)) :=
  if (decide (i ≤ (List.length data : Int))) then (if (decide (i < (List.length data : Int))) then (ah3 data i).bind fun c23 => some (!decide ((c23.toNat : Int) = 10)) else some false).bind fun t24 => if t24 then some (.cont (from_,(IntKind.wrap .i64 (i + 1)),v19)) else if (decide (from_ < i)) then (cut data from_ i).bind fun x27 => (aN8 v19 x27).bind fun x28 => if (!decide (x28.2 = 0)) then some (.done (a,x28.2)) else some (.cont ((IntKind.wrap .i64 (i + 1)),(IntKind.wrap .i64 (i + 1)),x28.1)) else some (.cont ((IntKind.wrap .i64 (i + 1)),(IntKind.wrap .i64 (i + 1)),v19)) else some (.done (v19,0))
def a08 (a : aa2) (data : Str) : Option (aa2 × Int) :=
  aa8 (fun s => aH8 a data s.1 s.2.1 s.2.2) (0,0,a)
def aP5 (l : (List aa1)) (name : Str) (i : Int) (out : (List aa1)) : Option (Step (Int × (List aa1)) (List aa1)) :=
  if (decide (i < (List.length l : Int))) then (ad9 l i).bind fun x10 => if (!decide (x10.Name = name)) then (ad9 l i).bind fun x12 => (aC2 40 out [x12]).bind fun x13 => some (.cont ((IntKind.wrap .i64 (i + 1)),x13)) else some (.cont ((IntKind.wrap .i64 (i + 1)),out)) else some (.done out)
def aN9 (l : (List aa1)) (name : Str) : Option (List aa1) :=
  aa8 (fun s => aP5 l name s.1 s.2) (0,([] : List aa1))
def bg5 (a : aa2) (pattern : (List aa1)) (i : Int) : Option (Step Int ((List aa1) × Bool)) :=
  if (decide (i < (List.length a.Keys : Int))) then (ad9 a.Keys i).bind fun x10 => (aN7 x10 pattern).bind fun x11 => if x11 then (ad9 a.Keys i).bind fun x13 => (aC2 40 ([] : List aa1) x13).bind fun x14 => some (.done (x14,true)) else some (.cont (IntKind.wrap .i64 (i + 1))) else some (.done (([] : List aa1),false))
def a87 (a : aa2) (pattern : (List aa1)) : Option ((List aa1) × Bool) :=
  aa8 (fun s => bg5 a pattern s) 0
def bo7 (base : Int) : Option Bool :=
  some ((decide (base = 8)) || ((decide (base = 10)) || (decide (base = 16))))
def aU8 (base : Int) (n_1 : Int) (s_ : Str) : Option (Step (Int × Str) Str) :=
  if ((decide (n_1 < 0)) || (decide (s_ = []))) then (remI n_1 base).bind fun x12 => (cut [48,49,50,51,52,53,54,55,56,57,97,98,99,100,101,102] (IntKind.wrap .i64 (0 - x12)) (IntKind.wrap .i64 ((IntKind.wrap .i64 (0 - x12)) + 1))).bind fun x13 => (am8 x13 s_).bind fun x14 => (cB0 .i64 n_1 base).bind fun x15 => some (.cont (x15,x14)) else some (.done s_)
def aU9 (n : Int) (base : Int) : Option Str :=
  aa8 (fun s => aU8 base s.1 s.2) (n,[])
def bc7 (n : Int) (base : Int) : Option Str :=
  (bo7 base).bind fun x1 => if (!x1) then some [] else if (decide (n < 0)) then (aU9 n base).bind fun x4 => (am8 [45] x4).bind fun x5 => some x5 else (aU9 (IntKind.wrap .i64 (0 - n)) base).bind fun x6 => some x6
def bo8 (proto : Str) (role : Int) (key : (List aa1)) (at1 : Str) : Option (aa3 × Int) :=
  (aq4 proto).bind fun x1 => if (decide (x1 = 0)) then some ((aa3.mk 0 [] 0 0 0 ([] : List aa1) [] [] [] 0),53) else if (bif (!decide (role = 1)) then ((!decide (role = 2)) || (!decide ((List.length at1 : Int) = 32))) else (!decide ((List.length at1 : Int) = 32))) then some ((aa3.mk 0 [] 0 0 0 ([] : List aa1) [] [] [] 0),1) else (az3 key).bind fun x7 => if (!decide (x7 = 0)) then some ((aa3.mk 0 [] 0 0 0 ([] : List aa1) [] [] [] 0),x7) else (aC2 40 ([] : List aa1) key).bind fun x9 => (aC9 (aa3.mk 0 proto role 0 0 x9 at1 [] [] 0)).bind fun x10 => some (x10,0)
def aI7 (a : aa2) (i : Int) (x3 : ((List aa1) × Int × Int)) (x5 : (Str × Bool)) (p10 : Int) : Option (aa2 × Int) :=
  if (decide (p10 = 0)) then some (a,1) else (aN9 x3.1 [112,114,111,116,111]).bind fun x12 => (aN9 x12 [114,111,108,101]).bind fun x13 => (a87 a x13).bind fun x14 => if (!x14.2) then some (a,52) else if (decide (9007199254740991 ≤ a.Count)) then some (a,22) else (bc7 a.Count 10).bind fun x17 => (aU5 a.Seed x17).bind fun x18 => (bo8 x5.1 p10 x14.1 x18).bind fun x19 => if (!decide (x19.2 = 0)) then some (a,x19.2) else (ad9 a.Convs i).bind fun x21 => (aU7 a i {x19.1 with Id := x21.Id}).bind fun x22 => some ({x22 with Count := IntKind.wrap .i64 (a.Count + 1)},0)
def aI8 (a : aa2) (i : Int) (x3 : ((List aa1) × Int × Int)) (x5 : (Str × Bool)) (p8 : Int) : Option (aa2 × Int) :=
  (aD5 x3.1 [114,111,108,101]).bind fun x23 => if (decide (x23 = [115,101,114,118,101,114])) then aI7 a i x3 x5 2 else aI7 a i x3 x5 p8
def bo9 (a : aa2) (i : Int) (data : Str) : Option (aa2 × Int) :=
  (aN5 data [115,116,97,114,116]).bind fun x1 => if (!x1.2) then some (a,53) else (aG2 x1.1).bind fun x3 => if (!decide (x3.2.2 = 0)) then some (a,x3.2.2) else (aD4 x3.1 [112,114,111,116,111]).bind fun x5 => if (!x5.2) then some (a,53) else (aD5 x3.1 [114,111,108,101]).bind fun x25 => if (decide (x25 = [99,108,105,101,110,116])) then aI8 a i x3 x5 1 else aI8 a i x3 x5 0
def aO0 (s_ : Str) (at_ : Int) : Option (Str × Bool) :=
  if ((decide ((List.length s_ : Int) < at_)) || (decide ((IntKind.wrap .i64 ((List.length s_ : Int) - at_)) < 32))) then some ([],false) else (cut s_ at_ (IntKind.wrap .i64 (at_ + 32))).bind fun x4 => some (x4,true)
def a88 (c : aa3) (s_ : Str) : Option (Str × Bool) :=
  (ax6 c).bind fun x1 => (if x1 then some true else (ax6 {c with Step := IntKind.wrap .i64 (c.Step + 1)}).bind fun x3 => some (!x3)).bind fun t4 => if t4 then some (c.Peer,true) else if ((decide (c.Proto = [109,117,116,117,97,108])) && (decide (c.Role = 2))) then (au3 c.Key).bind fun x9 => (aO0 s_ (IntKind.wrap .i64 (2 + (List.length x9 : Int)))).bind fun x10 => some (x10.1,x10.2) else (aO0 s_ 0).bind fun x11 => some (x11.1,x11.2)
def bp0 (c : aa3) (s_ : Str) : Option (aa3 × Int) :=
  if (!decide (c.Phase = 2)) then some (c,53) else (a88 c s_).bind fun x2 => (if (!x2.2) then some true else (aU6 c x2.1).bind fun x4 => some (!decide (x4 = s_))).bind fun t5 => if t5 then some ({c with Phase := 4,Err := 28},28) else (aC9 {c with Step := IntKind.wrap .i64 (c.Step + 1),Peer := x2.1}).bind fun x7 => some (x7,0)
def at8 (data : Str) (p9 : Int) (p10 : aa2) : Option (aa2 × Int × Int) :=
  if (!decide (p9 = 0)) then some (p10,0,p9) else some (p10,(List.length data : Int),0)
def a39 (a : aa2) (id : Int) (data : Str) : Option (aa2 × Int × Int) :=
  (as3 a id).bind fun x1 => if (!x1) then some (a,0,8) else if (decide (id = 1)) then some (a,0,10) else if ((decide (id = 3)) || (decide (id = 4))) then some (a,0,11) else (aD9 a id).bind fun x7 => if (decide (x7 < 0)) then (a08 a data).bind fun x13 => at8 data x13.2 x13.1 else (ad9 a.Convs x7).bind fun x14 => (aF0 x14).bind fun x15 => if x15 then (bo9 a x7 data).bind fun x17 => at8 data x17.2 x17.1 else (ad9 a.Convs x7).bind fun x18 => (bp0 x18 data).bind fun x19 => if ((decide (x19.2 = 0)) || (decide (x19.2 = 28))) then (aU7 a x7 x19.1).bind fun x23 => at8 data x19.2 x23 else at8 data x19.2 a
def bp1 (a : aa2) (id : Int) (mode : Int) : Option aa2 :=
  (aD9 a id).bind fun x1 => if (decide (x1 < 0)) then some a else (cut a.Convs 0 x1).bind fun x3 => (aC2 128 ([] : List aa3) x3).bind fun x4 => (cut a.Convs (IntKind.wrap .i64 (x1 + 1)) (List.length a.Convs : Int)).bind fun x5 => (aC2 128 x4 x5).bind fun x6 => some {a with Convs := x6}
def aX9 (a : aa2) (o : a66) : Option (aa2 × Bool) :=
  if (decide (o.Kind = 0)) then (ag6 a o.Text).bind fun x2 => (aN8 a o.Text).bind fun x3 => (af7 x2.1 x3.1).bind fun x4 => some (x2.1,(x4 && (decide (x2.2 = x3.2)))) else if (decide (o.Kind = 1)) then (aq7 a o.User o.Id o.Mode).bind fun x8 => (bw4 a o.User o.Id o.Mode).bind fun x9 => (af7 x8.1 x9.1).bind fun x10 => some (x8.1,(x10 && ((decide (x8.2.1 = x9.2.1)) && (decide (x8.2.2 = x9.2.2))))) else if (decide (o.Kind = 2)) then (ah0 a o.Id o.Mode 200).bind fun x15 => (aX8 a o.Id o.Mode 200).bind fun x16 => (af7 x15.1 x16.1).bind fun x17 => some (x15.1,(x17 && ((decide (x15.2.1 = x16.2.1)) && (decide (x15.2.2 = x16.2.2))))) else if (decide (o.Kind = 3)) then (ak3 a o.Id o.Text).bind fun x22 => (a39 a o.Id o.Text).bind fun x23 => (af7 x22.1 x23.1).bind fun x24 => some (x22.1,(x24 && ((decide (x22.2.1 = x23.2.1)) && (decide (x22.2.2 = x23.2.2))))) else (ay6 a o.Id o.Mode).bind fun x28 => (bp1 a o.Id o.Mode).bind fun x29 => (af7 x28 x29).bind fun x30 => some (x28,x30)
def aP6 (a : aa2) (o : a66) : Option Bool :=
  (aE9 a).bind fun x1 => (if (!x1) then some true else if (decide (2000 < (List.length o.Text : Int))) then some true else if (decide (1000 < (List.length o.User : Int))) then some true else (ax7 a).bind fun x5 => some (!x5)).bind fun t6 => if t6 then (ae8).bind fun x8 => some x8 else (aX9 a o).bind fun x9 => (if x9.2 then (ae8).bind fun x11 => some x11 else some false).bind fun t12 => some t12
def aP7 (a : aa2) (x_ : aE8) : Option Bool :=
  (aE9 a).bind fun x1 => (if (!x1) then some true else if (decide (16 < x_.Id)) then some true else (ax7 a).bind fun x4 => some (!x4)).bind fun t5 => if t5 then (ae8).bind fun x7 => some x7 else (ah0 a x_.Id x_.Offset x_.Count).bind fun x8 => (aX8 a x_.Id x_.Offset x_.Count).bind fun x9 => (af7 a x8.1).bind fun x10 => (if x10 then if (decide (x8.2.1 = x9.2.1)) then if (decide (x8.2.2 = x9.2.2)) then (ae8).bind fun x14 => some x14 else some false else some false else some false).bind fun t15 => some t15
def aB4 : Option Bool :=
  (ae8).bind fun x34 => some x34
def aB5 (l : (List a66)) (v20 : Int) (v21 : aa2) : Option (Step (Int × aa2) Bool) :=
  if (decide (v20 < (List.length l : Int))) then (ad9 l v20).bind fun x24 => if ((decide (500 < (List.length x24.Text : Int))) || (decide (1000 < (List.length x24.User : Int)))) then (ae8).bind fun x28 => some (.done x28) else (aX9 v21 x24).bind fun x29 => (if (!x29.2) then some true else (as2 x29.1).bind fun x31 => some (!x31)).bind fun t32 => if t32 then some (.done false) else some (.cont ((IntKind.wrap .i64 (v20 + 1)),x29.1)) else (aB4).map .done
def aP8 (owner : Str) (seed : Str) (l : (List a66)) : Option Bool :=
  if ((decide (25 < (List.length l : Int))) || ((decide (2000 < (List.length seed : Int))) || (decide (1000 < (List.length owner : Int))))) then (ae8).bind fun x5 => some x5 else (ao0 owner seed).bind fun x6 => if (!decide (x6.2 = 0)) then (ae8).bind fun x8 => some x8 else aa8 (fun s => aB5 l s.1 s.2) (0,x6.1)
def au8 (c : aa3) : Option (Str × Bool) :=
  if (!decide (c.Phase = 3)) then some ([],false) else some (c.User,true)
def aj6 (x10 : (aa2 × Int × Int)) (x11 : (aa2 × Int × Int)) (v38 : Int) (p44 : aa2) (p45 : aa2) : Option (Step (Int × aa2 × aa2) Bool) :=
  (ah0 p45 x11.2.1 0 1000).bind fun x46 => if (decide (x46.2.2 = 0)) then (ak3 p44 x10.2.1 x46.2.1).bind fun x48 => if (!decide (x48.2.2 = 0)) then some (.done false) else some (.cont ((IntKind.wrap .i64 (v38 + 1)),x48.1,x46.1)) else some (.cont ((IntKind.wrap .i64 (v38 + 1)),p44,p45))
def as9 (v39 : aa2) (v40 : aa2) : Option Bool :=
  if ((!decide ((List.length v39.Convs : Int) = 1)) || (!decide ((List.length v40.Convs : Int) = 1))) then some false else (ad9 v40.Convs 0).bind fun x57 => (au8 x57).bind fun x58 => (ad9 v39.Convs 0).bind fun x59 => (au8 x59).bind fun x60 => (if x58.2 then if x60.2 then if (decide (x58.1 = [97,110,110])) then (ae8).bind fun x64 => some x64 else some false else some false else some false).bind fun t65 => some t65
def ag8 (x10 : (aa2 × Int × Int)) (x11 : (aa2 × Int × Int)) (v38 : Int) (v39 : aa2) (v40 : aa2) : Option (Step (Int × aa2 × aa2) Bool) :=
  if (decide (v38 < 6)) then (ah0 v39 x10.2.1 0 1000).bind fun x50 => if (decide (x50.2.2 = 0)) then (ak3 v40 x11.2.1 x50.2.1).bind fun x52 => if (!decide (x52.2.2 = 0)) then some (.done false) else aj6 x10 x11 v38 x50.1 x52.1 else aj6 x10 x11 v38 v39 v40 else (as9 v39 v40).map .done
def aj3 (which : Int) (x_ : Str) (y : Str) : Option Bool :=
  if ((decide (100 < (List.length x_ : Int))) || (decide (100 < (List.length y : Int)))) then (ae8).bind fun x4 => some x4 else (ad9 [[99,104,97,108],[109,117,116,117,97,108],[112,108,97,105,110]] (Int.tmod (IntKind.wrap .i64 which) 3)).bind fun x5 => (ao0 [97,100,109] x_).bind fun x6 => (ao0 [97,100,109] y).bind fun x7 => (ag6 x6.1 [107,101,121,32,117,115,101,114,61,97,110,110,32,33,115,101,99,114,101,116,61,112,119]).bind fun x8 => (ag6 x7.1 [107,101,121,32,100,111,109,61,122,32,117,115,101,114,61,97,110,110,32,33,115,101,99,114,101,116,61,112,119]).bind fun x9 => (aq7 x8.1 [97,100,109] 4 2).bind fun x10 => (aq7 x9.1 [97,100,109] 4 2).bind fun x11 => (am8 [115,116,97,114,116,32,112,114,111,116,111,61] x5).bind fun x12 => (am8 x12 [32,114,111,108,101,61,99,108,105,101,110,116,32,117,115,101,114,61,97,110,110]).bind fun x13 => (ak3 x10.1 x10.2.1 x13).bind fun x14 => (am8 [115,116,97,114,116,32,112,114,111,116,111,61] x5).bind fun x15 => (am8 x15 [32,114,111,108,101,61,115,101,114,118,101,114,32,117,115,101,114,61,97,110,110]).bind fun x16 => (ak3 x11.1 x11.2.1 x16).bind fun x17 => if ((!decide (x6.2 = 0)) || ((!decide (x7.2 = 0)) || ((!decide (x8.2 = 0)) || ((!decide (x9.2 = 0)) || ((!decide (x10.2.2 = 0)) || ((!decide (x11.2.2 = 0)) || ((!decide (x14.2.2 = 0)) || (!decide (x17.2.2 = 0))))))))) then some false else aa8 (fun s => ag8 x10 x11 s.1 s.2.1 s.2.2) (0,x14.1,x17.1)
def aV0 (a : aa2) (id : Int) : Option Int :=
  (am2 a id).bind fun x1 => if (!x1) then some 8 else if (!decide (id = 1)) then some 9 else some 0
def bg6 (a : aa2) (v4 : Int) (out : (List Int)) : Option (Step (Int × (List Int)) (List Int)) :=
  if (decide (v4 < (List.length a.Convs : Int))) then (ad9 a.Convs v4).bind fun x8 => (aC2 8 out [(IntKind.wrap .i64 (16 + x8.Id))]).bind fun x9 => some (.cont ((IntKind.wrap .i64 (v4 + 1)),x9)) else some (.done out)
def bp2 (a : aa2) : Option (List Int) :=
  aa8 (fun s => bg6 a s.1 s.2) (0,[2,3,4])
def bc8 (id : Int) : Option (Str × Int) :=
  if (decide (id = 1)) then some ([47],2147484013) else if (decide (id = 2)) then some ([99,116,108],384) else if (decide (id = 3)) then some ([112,114,111,116,111],292) else if (decide (id = 4)) then some ([114,112,99],384) else (a79 (IntKind.wrap .i64 (id - 16)) 10).bind fun x5 => some (x5,384)
def a09 (want : Str) (x4 : (List Int)) (v9 : Int) : Option (Step Int (Int × Int)) :=
  if (decide (v9 < (List.length x4 : Int))) then (ad9 x4 v9).bind fun x12 => (bc8 x12).bind fun x13 => if (decide (x13.1 = want)) then some (.done (x12,0)) else some (.cont (IntKind.wrap .i64 (v9 + 1))) else some (.done (0,8))
def aK8 (a : aa2) (id : Int) (want : Str) : Option (Int × Int) :=
  (aV0 a id).bind fun x1 => if (!decide (x1 = 0)) then some (0,x1) else if (decide (want = [46,46])) then some (1,0) else (bp2 a).bind fun x4 => aa8 (fun s => a09 want x4 s) 0
def aY0 (id : Int) : Option Str :=
  if (decide (id ≤ 4)) then (ad9 [[],[47],[99,116,108],[112,114,111,116,111],[114,112,99]] id).bind fun x2 => some x2 else (bc7 (IntKind.wrap .i64 (id - 16)) 10).bind fun x3 => some x3
def a10 (a : aa2) (s_ : Str) (i_1 : Int) : Option (Step Int (Int × Int)) :=
  if (decide (i_1 < (List.length a.Convs : Int))) then (ad9 a.Convs i_1).bind fun x20 => (aY0 (IntKind.wrap .i64 (x20.Id + 16))).bind fun x21 => if (decide (x21 = s_)) then (ad9 a.Convs i_1).bind fun x23 => some (.done ((IntKind.wrap .i64 (x23.Id + 16)),0)) else some (.cont (IntKind.wrap .i64 (i_1 + 1))) else some (.done (0,8))
def a89 (a : aa2) (s_ : Str) (i : Int) : Option (Step Int (Int × Int)) :=
  if (decide (i ≤ 4)) then (aY0 i).bind fun x10 => if (decide (x10 = s_)) then some (.done (i,0)) else some (.cont (IntKind.wrap .i64 (i + 1))) else (aa8 (fun s => a10 a s_ s) 0).map .done
def bc9 (a : aa2) (id : Int) (s_ : Str) : Option (Int × Int) :=
  (as3 a id).bind fun x1 => if (!x1) then some (0,8) else if (!decide (id = 1)) then some (0,9) else if (decide (s_ = [46,46])) then some (1,0) else aa8 (fun s => a89 a s_ s) 2
def aE0 (a : aa2) (id : Int) : Option (ae0 × Int) :=
  (am2 a id).bind fun x1 => if (!x1) then some ((ae0.mk 0 0 (a33.mk 0 0 0) 0 0 0 0 [] [] [] []),8) else (bc8 id).bind fun x3 => if (decide (id = 1)) then some ((ae0.mk 6 0 (a33.mk 128 0 id) x3.2 0 0 0 x3.1 a.Owner a.Owner []),0) else some ((ae0.mk 6 0 (a33.mk 0 0 id) x3.2 0 0 0 x3.1 a.Owner a.Owner []),0)
def aO1 (a : aa2) (id : Int) (x3 : Str) (p5 : Int) (p6 : Int) : Option (ae0 × Int) :=
  if (decide (id = 3)) then some ((ae0.mk 6 0 (a33.mk p5 0 id) 292 0 0 0 x3 a.Owner a.Owner []),0) else some ((ae0.mk 6 0 (a33.mk p5 0 id) p6 0 0 0 x3 a.Owner a.Owner []),0)
def aK9 (a : aa2) (id : Int) : Option (ae0 × Int) :=
  (as3 a id).bind fun x1 => if (!x1) then some ((ae0.mk 0 0 (a33.mk 0 0 0) 0 0 0 0 [] [] [] []),8) else (aY0 id).bind fun x3 => if (decide (id = 1)) then aO1 a id x3 128 2147484013 else aO1 a id x3 0 384
def a11 (a : aa2) (x3 : (List Int)) (v8 : Int) (out : (List ae0)) : Option (Step (Int × (List ae0)) ((List ae0) × Int)) :=
  if (decide (v8 < (List.length x3 : Int))) then (ad9 x3 v8).bind fun x12 => (aE0 a x12).bind fun x13 => (aC2 136 out [x13.1]).bind fun x14 => some (.cont ((IntKind.wrap .i64 (v8 + 1)),x14)) else some (.done (out,0))
def aL0 (a : aa2) (id : Int) : Option ((List ae0) × Int) :=
  (aV0 a id).bind fun x1 => if (!decide (x1 = 0)) then some (([] : List ae0),x1) else (bp2 a).bind fun x3 => aa8 (fun s => a11 a x3 s.1 s.2) (0,([] : List ae0))
def a12 (a : aa2) (i_1 : Int) (out_1 : (List ae0)) : Option (Step (Int × (List ae0)) ((List ae0) × Int)) :=
  if (decide (i_1 < (List.length a.Convs : Int))) then (ad9 a.Convs i_1).bind fun x20 => (aK9 a (IntKind.wrap .i64 (16 + x20.Id))).bind fun x21 => (aC2 136 out_1 [x21.1]).bind fun x22 => some (.cont ((IntKind.wrap .i64 (i_1 + 1)),x22)) else some (.done (out_1,0))
def a90 (a : aa2) (i : Int) (out : (List ae0)) : Option (Step (Int × (List ae0)) ((List ae0) × Int)) :=
  if (decide (i ≤ 4)) then (aK9 a i).bind fun x10 => (aC2 136 out [x10.1]).bind fun x11 => some (.cont ((IntKind.wrap .i64 (i + 1)),x11)) else (aa8 (fun s => a12 a s.1 s.2) (0,out)).map .done
def bw6 (a : aa2) (id : Int) : Option ((List ae0) × Int) :=
  (as3 a id).bind fun x1 => if (!x1) then some (([] : List ae0),8) else if (!decide (id = 1)) then some (([] : List ae0),9) else aa8 (fun s => a90 a s.1 s.2) (2,([] : List ae0))
def a91 (a : (List ae0)) (b : (List ae0)) (i : Int) : Option (Step Int Bool) :=
  if (decide (i < (List.length a : Int))) then (ad9 a i).bind fun x9 => (ad9 b i).bind fun x10 => if (!(decide (x9.Type_ = x10.Type_) && (decide (x9.Dev = x10.Dev) && (decide (x9.Qid.Type_ = x10.Qid.Type_) && (decide (x9.Qid.Vers = x10.Qid.Vers) && (decide (x9.Qid.Path = x10.Qid.Path) && (decide (x9.Mode = x10.Mode) && (decide (x9.Atime = x10.Atime) && (decide (x9.Mtime = x10.Mtime) && (decide (x9.Length = x10.Length) && (decide (x9.Name = x10.Name) && (decide (x9.Uid = x10.Uid) && (decide (x9.Gid = x10.Gid) && (decide (x9.Muid = x10.Muid) && true)))))))))))))) then some (.done false) else some (.cont (IntKind.wrap .i64 (i + 1))) else some (.done true)
def bd0 (a : (List ae0)) (b : (List ae0)) : Option Bool :=
  if (!decide ((List.length a : Int) = (List.length b : Int))) then some false else aa8 (fun s => a91 a b s) 0
def aP9 (a : aa2) (seed : Str) (x_ : aE8) : Option Bool :=
  (aE9 a).bind fun x1 => (if (!x1) then some true else if (decide (2000 < (List.length seed : Int))) then some true else if (decide (1000 < (List.length x_.Name : Int))) then some true else (aM4 x_.Pattern).bind fun x5 => some (!x5)).bind fun t6 => if t6 then (ae8).bind fun x8 => some x8 else (ao0 x_.Name seed).bind fun x9 => (a67 x_.Name seed).bind fun x10 => (af7 x9.1 x10.1).bind fun x11 => if ((!x11) || (!decide (x9.2 = x10.2))) then some false else (ax7 a).bind fun x15 => if (!x15) then (as2 a).bind fun x17 => (if (!x17) then (ae8).bind fun x19 => some x19 else some false).bind fun t20 => some t20 else (aK1 a x_.Pattern).bind fun x21 => (a87 a x_.Pattern).bind fun x22 => (aK8 a x_.Id x_.Name).bind fun x23 => (bc9 a x_.Id x_.Name).bind fun x24 => (aE0 a x_.Id).bind fun x25 => (aK9 a x_.Id).bind fun x26 => (aL0 a x_.Id).bind fun x27 => (bw6 a x_.Id).bind fun x28 => (as2 a).bind fun x29 => (if x29 then (au2 x21.1 x22.1).bind fun x31 => if x31 then if (decide (x21.2 = x22.2)) then if (decide (x23.1 = x24.1)) then if (decide (x23.2 = x24.2)) then if (decide (x25.1.Type_ = x26.1.Type_) && (decide (x25.1.Dev = x26.1.Dev) && (decide (x25.1.Qid.Type_ = x26.1.Qid.Type_) && (decide (x25.1.Qid.Vers = x26.1.Qid.Vers) && (decide (x25.1.Qid.Path = x26.1.Qid.Path) && (decide (x25.1.Mode = x26.1.Mode) && (decide (x25.1.Atime = x26.1.Atime) && (decide (x25.1.Mtime = x26.1.Mtime) && (decide (x25.1.Length = x26.1.Length) && (decide (x25.1.Name = x26.1.Name) && (decide (x25.1.Uid = x26.1.Uid) && (decide (x25.1.Gid = x26.1.Gid) && (decide (x25.1.Muid = x26.1.Muid) && true))))))))))))) then if (decide (x25.2 = x26.2)) then (bd0 x27.1 x28.1).bind fun x38 => if x38 then if (decide (x27.2 = x28.2)) then (ae8).bind fun x41 => some x41 else some false else some false else some false else some false else some false else some false else some false else some false else some false).bind fun t42 => some t42
def aB6 (v28 : Int) (v29 : (List (List aa1))) (l : (List aa1)) : Option (Step (Int × (List (List aa1))) Bool) :=
  (aC2 24 v29 [l]).bind fun x47 => some (.cont ((IntKind.wrap .i64 (v28 + 1)),x47))
def aB7 (secret : Str) (v28 : Int) (v29 : (List (List aa1))) (x33 : (List aa1)) (v39 : Int) (l : (List aa1)) : Option (Step (Int × (List aa1)) (Step (Int × (List (List aa1))) Bool)) :=
  if (decide (v39 < (List.length x33 : Int))) then (ad9 l v39).bind fun x43 => (ah3 x43.Name 0).bind fun c44 => if (decide ((c44.toNat : Int) = 33)) then (ad9 l v39).bind fun x46 => some (.cont ((IntKind.wrap .i64 (v39 + 1)),(List.set l (Int.toNat v39) {x46 with Value := secret}))) else some (.cont ((IntKind.wrap .i64 (v39 + 1)),l)) else (aB6 v28 v29 l).map .done
def aB8 (a : aa2) (x_ : aE8) (v29 : (List (List aa1))) : Option Bool :=
  (ax7 {a with Keys := v29}).bind fun x49 => if (!x49) then (ae8).bind fun x51 => some x51 else (aE0 a x_.Id).bind fun x52 => (aE0 {a with Keys := v29} x_.Id).bind fun x53 => (aL0 a x_.Id).bind fun x54 => (aL0 {a with Keys := v29} x_.Id).bind fun x55 => (aK8 a x_.Id x_.Name).bind fun x56 => (aK8 {a with Keys := v29} x_.Id x_.Name).bind fun x57 => (if (!(decide (x52.1.Type_ = x53.1.Type_) && (decide (x52.1.Dev = x53.1.Dev) && (decide (x52.1.Qid.Type_ = x53.1.Qid.Type_) && (decide (x52.1.Qid.Vers = x53.1.Qid.Vers) && (decide (x52.1.Qid.Path = x53.1.Qid.Path) && (decide (x52.1.Mode = x53.1.Mode) && (decide (x52.1.Atime = x53.1.Atime) && (decide (x52.1.Mtime = x53.1.Mtime) && (decide (x52.1.Length = x53.1.Length) && (decide (x52.1.Name = x53.1.Name) && (decide (x52.1.Uid = x53.1.Uid) && (decide (x52.1.Gid = x53.1.Gid) && (decide (x52.1.Muid = x53.1.Muid) && true)))))))))))))) then some true else if (!decide (x52.2 = x53.2)) then some true else (bd0 x54.1 x55.1).bind fun x60 => if (!x60) then some true else if (!decide (x54.2 = x55.2)) then some true else if (!decide (x56.1 = x57.1)) then some true else some (!decide (x56.2 = x57.2))).bind fun t64 => if t64 then some false else if (decide (16 < x_.Id)) then (ae8).bind fun x67 => some x67 else (ah0 a x_.Id x_.Offset x_.Count).bind fun x68 => (ah0 {a with Keys := v29} x_.Id x_.Offset x_.Count).bind fun x69 => (if (decide (x68.2.1 = x69.2.1)) then if (decide (x68.2.2 = x69.2.2)) then (ae8).bind fun x72 => some x72 else some false else some false).bind fun t73 => some t73
def aB9 (a : aa2) (secret : Str) (x_ : aE8) (v28 : Int) (v29 : (List (List aa1))) : Option (Step (Int × (List (List aa1))) Bool) :=
  if (decide (v28 < (List.length a.Keys : Int))) then (ad9 a.Keys v28).bind fun x32 => (aC2 40 ([] : List aa1) x32).bind fun x33 => aa8 (fun s => aB7 secret v28 v29 x33 s.1 s.2) (0,x33) else (aB8 a x_ v29).map .done
def aQ0 (a : aa2) (secret : Str) (x_ : aE8) : Option Bool :=
  (aE9 a).bind fun x1 => (if (!x1) then some true else if (decide (secret = [])) then some true else if (decide (20 < (List.length secret : Int))) then some true else if (decide (1000 < (List.length x_.Name : Int))) then some true else (ax7 a).bind fun x6 => some (!x6)).bind fun t7 => if t7 then (ae8).bind fun x9 => some x9 else aa8 (fun s => aB9 a secret x_ s.1 s.2) (0,([] : List (List aa1)))
end
end Go.Proofs.YtiliognepodhnaaGreatDoor
