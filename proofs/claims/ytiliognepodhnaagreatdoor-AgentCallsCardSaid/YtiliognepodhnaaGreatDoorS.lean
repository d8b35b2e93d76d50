import Derived.Test.YtiliognepodhnaaGreatDoorVmB
import Derived.Test.YtiliognepodhnaaGreatDoorVmI
open BitVec (ofInt)
open Int (tdiv tmod)
open Go.IntKind (wrap)
open List (length set)
namespace Go.Proofs.YtiliognepodhnaaGreatDoor
open Go.Vm
set_option linter.unusedVariables false
set_option linter.unusedSimpArgs false
set_option maxRecDepth 100000
noncomputable section
abbrev Str := List UInt8
structure aa1 where
  Mz : Str
  Value : Str
  Qz : Bool
  deriving Inhabited
def zE1 (x : aa1) : PV := .agg [.str x.Mz,.str x.Value,.bool x.Qz]
structure aa3 where
  Id : Int
  Pz : Str
  Rz : Int
  Hz : Int
  Step : Int
  Key : (List aa1)
  Own : Str
  Ez : Str
  Uz : Str
  Err : Int
  deriving Inhabited
def zE2 (x : aa3) : PV := .agg [.int .i64 x.Id,.str x.Pz,.int .i64 x.Rz,.int .i64 x.Hz,.int .i64 x.Step,.sl (some 3) (List.map zE1 x.Key),.str x.Own,.str x.Ez,.str x.Uz,.int .i64 x.Err]
structure aa2 where
  Oz : Str
  Sz : Str
  Kz : (List (List aa1))
  Xz : Int
  Cz : (List aa3)
  Nz : Int
  deriving Inhabited
def aa0 (x : (List aa1)) : PV := .sl (some 3) (List.map zE1 x)
def zE3 (x : aa2) : PV := .agg [.str x.Oz,.str x.Sz,.sl none (List.map aa0 x.Kz),.int .i64 x.Xz,.sl (some 10) (List.map zE2 x.Cz),.int .i64 x.Nz]
structure ay3 where
  Kind : Int
  Id : Int
  Uz : Str
  Mode : Int
  Text : Str
  deriving Inhabited
def zE4 (x : ay3) : PV := .agg [.int .i64 x.Kind,.int .i64 x.Id,.str x.Uz,.int .i64 x.Mode,.str x.Text]
structure aa4 where
  Conv : aa3
  deriving Inhabited
def zE5 (x : aa4) : PV := .agg [.int .i64 x.Conv.Id,.str x.Conv.Pz,.int .i64 x.Conv.Rz,.int .i64 x.Conv.Hz,.int .i64 x.Conv.Step,.sl (some 3) (List.map zE1 x.Conv.Key),.str x.Conv.Own,.str x.Conv.Ez,.str x.Conv.Uz,.int .i64 x.Conv.Err]
structure aO6 where
  Id : Int
  Mz : Str
  Offset : Int
  Nz : Int
  Pattern : (List aa1)
  deriving Inhabited
def zE6 (x : aO6) : PV := .agg [.int .i64 x.Id,.str x.Mz,.int .i64 x.Offset,.int .i64 x.Nz,.sl (some 3) (List.map zE1 x.Pattern)]
structure bc0 where
  Type_ : Int
  Vers : Int
  Path : Int
  deriving Inhabited
structure ae3 where
  Type_ : Int
  Dev : Int
  Qid : bc0
  Mode : Int
  Atime : Int
  Mtime : Int
  Length : Int
  Mz : Str
  Uid : Str
  Gid : Str
  Muid : Str
  deriving Inhabited
def zE8 (x : ae3) : PV := .agg [.int .i64 x.Type_,.int .i64 x.Dev,.int .i64 x.Qid.Type_,.int .i64 x.Qid.Vers,.int .i64 x.Qid.Path,.int .i64 x.Mode,.int .i64 x.Atime,.int .i64 x.Mtime,.int .i64 x.Length,.str x.Mz,.str x.Uid,.str x.Gid,.str x.Muid]
def az1 (l : (List aa1)) (n : Int) (v5 : Int) : Option (Step (Int × Int) Bool) :=
  if (decide (v5 < (length l : Int))) then (ae2 l v5).bind fun x8 => (ae2 l v5).bind fun x9 => some (.cont ((wrap .i64 (n + (wrap .i64 ((min (length x8.Mz : Int) 10000) + (min (length x9.Value : Int) 10000))))),(wrap .i64 (v5 + 1)))) else some (.done ((decide ((length l : Int) ≤ 40)) && (decide (n ≤ 5000))))
def aF0 (l : (List aa1)) : Option Bool :=
  ab1 (fun s => az1 l s.1 s.2) (0,0)
def av6 (a : aa2) (v22 : Int) : Option (Step Int Bool) :=
  if (decide (v22 < (length a.Cz : Int))) then (ae2 a.Cz v22).bind fun x25 => (aF0 x25.Key).bind fun x26 => if ((!x26) || (decide (1000 < (wrap .i64 ((wrap .i64 ((wrap .i64 ((length x25.Pz : Int) + (length x25.Own : Int))) + (length x25.Ez : Int))) + (length x25.Uz : Int)))))) then some (.done false) else some (.cont (wrap .i64 (v22 + 1))) else some (.done true)
def aC9 (a : aa2) (v10 : Int) : Option (Step Int Bool) :=
  if (decide (v10 < (length a.Kz : Int))) then (ae2 a.Kz v10).bind fun x13 => (aF0 x13).bind fun x14 => if (!x14) then some (.done false) else some (.cont (wrap .i64 (v10 + 1))) else (ab1 (fun s => av6 a s) 0).map .done
def aA6 (a : aa2) : Option Bool :=
  if ((decide (1000 < (length a.Oz : Int))) || ((decide (2000 < (length a.Sz : Int))) || ((decide (70 < (length a.Kz : Int))) || (decide (40 < (length a.Cz : Int)))))) then some false else ab1 (fun s => aC9 a s) 0
def a28 (owner : Str) (seed : Str) : Option (aa2 × Int) :=
  if ((decide (owner = [])) || (decide (32 < (length owner : Int)))) then some ((aa2.mk [] [] ([] : List (List aa1)) 0 ([] : List aa3) 0),25) else if (decide (1024 < (length seed : Int))) then some ((aa2.mk [] [] ([] : List (List aa1)) 0 ([] : List aa3) 0),4) else some ((aa2.mk owner seed ([] : List (List aa1)) 1 ([] : List aa3) 0),0)
def aI5 (name : Str) : Option Bool :=
  (if (decide (0 < (length name : Int))) then (ah4 name 0).bind fun c2 => some (decide ((c2.toNat : Int) = 33)) else some false).bind fun t3 => some t3
def az2 (p2 : Str) (i : Int) : Option (Step Int Bool) :=
  if (decide (i < (length p2 : Int))) then (ah4 p2 i).bind fun c14 => (if (decide (97 ≤ (c14.toNat : Int))) then (ah4 p2 i).bind fun c16 => some (decide ((c16.toNat : Int) ≤ 122)) else some false).bind fun t17 => (if (!t17) then if (decide (i = 0)) then some true else (ah4 p2 i).bind fun c20 => if (decide (48 ≤ (c20.toNat : Int))) then (ah4 p2 i).bind fun c22 => if (decide ((c22.toNat : Int) ≤ 57)) then some false else (ah4 p2 i).bind fun c24 => if (decide ((c24.toNat : Int) = 45)) then some false else (ah4 p2 i).bind fun c26 => some (!(decide ((c26.toNat : Int) = 95))) else (ah4 p2 i).bind fun c27 => if (decide ((c27.toNat : Int) = 45)) then some false else (ah4 p2 i).bind fun c29 => some (!(decide ((c29.toNat : Int) = 95))) else some false).bind fun t30 => if t30 then some (.done false) else some (.cont (wrap .i64 (i + 1))) else some (.done ((decide (1 ≤ (length p2 : Int))) && (decide ((length p2 : Int) ≤ 32))))
def aD0 (p2 : Str) : Option Bool :=
  ab1 (fun s => az2 p2 s) 0
def aU3 (s_ : Str) : Option Bool :=
  (aI5 s_).bind fun x34 => if x34 then (cut s_ 1 (length s_ : Int)).bind fun x36 => aD0 x36 else aD0 s_
def av7 (s_ : Str) (i : Int) : Option (Step Int Bool) :=
  if (decide (i < (length s_ : Int))) then (ah4 s_ i).bind fun c12 => (if (decide ((c12.toNat : Int) = 0)) then some true else (ah4 s_ i).bind fun c14 => if (decide ((c14.toNat : Int) = 10)) then some true else (ah4 s_ i).bind fun c16 => some (decide ((c16.toNat : Int) = 13))).bind fun t17 => if t17 then some (.done false) else some (.cont (wrap .i64 (i + 1))) else some (.done true)
def aO7 (s_ : Str) : Option Bool :=
  ab1 (fun s => av7 s_ s) 0
def ay4 (before : (List aa1)) (a : aa1) (i : Int) : Option (Step Int Int) :=
  if (decide (i < (length before : Int))) then (ae2 before i).bind fun x17 => if (decide (x17.Mz = a.Mz)) then some (.done 7) else some (.cont (wrap .i64 (i + 1))) else some (.done 0)
def aU4 (before : (List aa1)) (a : aa1) : Option Int :=
  if (decide (32 ≤ (length before : Int))) then some 22 else (aU3 a.Mz).bind fun x2 => if (!x2) then some 6 else (if a.Qz then if (!decide (a.Value = [])) then some true else (aO7 a.Value).bind fun x6 => some (!x6) else (aO7 a.Value).bind fun x7 => some (!x7)).bind fun t8 => if t8 then some 2 else if (decide (1024 < (length a.Value : Int))) then some 4 else ab1 (fun s => ay4 before a s) 0
def az3 (l : (List aa1)) (i : Int) : Option (Step Int Int) :=
  if (decide (i < (length l : Int))) then (cut l 0 i).bind fun x9 => (ae2 l i).bind fun x10 => (aU4 x9 x10).bind fun x11 => if (!decide (x11 = 0)) then some (.done x11) else some (.cont (wrap .i64 (i + 1))) else some (.done 0)
def aF1 (l : (List aa1)) : Option Int :=
  ab1 (fun s => az3 l s) 0
def ay5 (l : (List aa1)) (name : Str) (i : Int) : Option (Step Int (Str × Bool)) :=
  if (decide (i < (length l : Int))) then (ae2 l i).bind fun x11 => (if (decide (x11.Mz = name)) then (ae2 l i).bind fun x13 => some (!x13.Qz) else some false).bind fun t14 => if t14 then (ae2 l i).bind fun x16 => some (.done (x16.Value,true)) else some (.cont (wrap .i64 (i + 1))) else some (.done ([],false))
def aB2 (l : (List aa1)) (name : Str) : Option (Str × Bool) :=
  ab1 (fun s => ay5 l name s) 0
def ay6 (l : (List aa1)) (name : Str) : Option Str :=
  (aB2 l name).bind fun x1 => some x1.1
def aD1 (l : (List aa1)) : Option Bool :=
  (ay6 l [117,115,101,114]).bind fun x11 => (ay6 l [33,115,101,99,114,101,116]).bind fun x12 => some ((decide (1 ≤ (length x11 : Int))) && ((decide ((length x11 : Int) ≤ 32)) && ((decide (1 ≤ (length x12 : Int))) && (decide ((length x12 : Int) ≤ 64)))))
def aG9 (l : (List aa1)) (i : Int) : Option (Step Int Bool) :=
  if (decide (i < (length l : Int))) then (ae2 l i).bind fun x9 => if x9.Qz then some (.done false) else some (.cont (wrap .i64 (i + 1))) else (aD1 l).map .done
def aF2 (l : (List aa1)) : Option Bool :=
  (aF1 l).bind fun x1 => if (!decide (x1 = 0)) then some false else ab1 (fun s => aG9 l s) 0
def av8 (l : (List aa1)) (i : Int) (out : (List aa1)) : Option (Step (Int × (List aa1)) (List aa1)) :=
  if (decide (i < (length l : Int))) then (ae2 l i).bind fun x11 => (aI5 x11.Mz).bind fun x12 => if (!x12) then (ae2 l i).bind fun x14 => (aE5 40 out [x14]).bind fun x15 => some (.cont ((wrap .i64 (i + 1)),x15)) else some (.cont ((wrap .i64 (i + 1)),out)) else some (.done out)
def ar4 (l : (List aa1)) : Option (List aa1) :=
  ab1 (fun s => av8 l s.1 s.2) (0,([] : List aa1))
def as2 (a : (List aa1)) (b : (List aa1)) (i : Int) : Option (Step Int Bool) :=
  if (decide (i < (length a : Int))) then (ae2 a i).bind fun x9 => (ae2 b i).bind fun x10 => if (!(decide (x9.Mz = x10.Mz) && (decide (x9.Value = x10.Value) && (decide (x9.Qz = x10.Qz) && true)))) then some (.done false) else some (.cont (wrap .i64 (i + 1))) else some (.done true)
def at8 (a : (List aa1)) (b : (List aa1)) : Option Bool :=
  if (!decide ((length a : Int) = (length b : Int))) then some false else ab1 (fun s => as2 a b s) 0
def aH0 (l : (List (List aa1))) (public_ : (List aa1)) (i : Int) : Option (Step Int Int) :=
  if (decide (i < (length l : Int))) then (ae2 l i).bind fun x9 => (ar4 x9).bind fun x10 => (at8 x10 public_).bind fun x11 => if x11 then some (.done i) else some (.cont (wrap .i64 (i + 1))) else some (.done (-1))
def aF3 (l : (List (List aa1))) (public_ : (List aa1)) : Option Int :=
  ab1 (fun s => aH0 l public_ s) 0
def at9 (a : aa3) (b : aa3) : Option Bool :=
  (if (decide (a.Id = b.Id)) then if (decide (a.Pz = b.Pz)) then if (decide (a.Rz = b.Rz)) then if (decide (a.Hz = b.Hz)) then if (decide (a.Step = b.Step)) then (at8 a.Key b.Key).bind fun x6 => if x6 then if (decide (a.Own = b.Own)) then if (decide (a.Ez = b.Ez)) then if (decide (a.Uz = b.Uz)) then some (decide (a.Err = b.Err)) else some false else some false else some false else some false else some false else some false else some false else some false else some false).bind fun t11 => some t11
def av9 (c : aa3) : Option Bool :=
  (at9 c (aa3.mk c.Id [] 0 0 0 [] [] [] [] 0)).bind fun x1 => some x1
def ay7 (proto : Str) (p2 : Bool) : Option Int :=
  if p2 then some 3 else if (decide (proto = [112,108,97,105,110])) then some 2 else some 0
def ah8 (proto : Str) : Option Int :=
  if (decide (proto = [99,104,97,108])) then ay7 proto (decide (proto = [99,104,97,108])) else ay7 proto (decide (proto = [109,117,116,117,97,108]))
def ak6 (key : (List aa1)) : Option Str :=
  (aB2 key [117,115,101,114]).bind fun x1 => some x1.1
def au0 (key : (List aa1)) : Option Str :=
  (aB2 key [33,115,101,99,114,101,116]).bind fun x1 => some x1.1
def ak7 (key : (List aa1)) : Option Int :=
  (aF1 key).bind fun x1 => if (!decide (x1 = 0)) then some x1 else (ak6 key).bind fun x3 => (au0 key).bind fun x4 => if ((decide ((length x3 : Int) < 1)) || ((decide (32 < (length x3 : Int))) || ((decide ((length x4 : Int) < 1)) || (decide (64 < (length x4 : Int)))))) then some 52 else some 0
def aw0 (c : aa3) : Option Bool :=
  if (decide (c.Pz = [99,104,97,108])) then some ((decide (c.Rz = 1)) && (decide (0 < c.Step))) else if ((decide (c.Pz = [109,117,116,117,97,108])) && (decide (c.Rz = 2))) then some (decide (0 < c.Step)) else some ((decide (c.Pz = [109,117,116,117,97,108])) && (decide (1 < c.Step)))
def aX7 (proto : Str) : Option Int :=
  if (decide (proto = [99,104,97,108])) then some 2 else some 1
def aO8 (c : aa3) : Option Int :=
  (ah8 c.Pz).bind fun x1 => if (decide (c.Step = x1)) then some 3 else (aX7 c.Pz).bind fun x3 => if (decide ((decide ((tmod c.Step 2) = 0)) = (decide (c.Rz = x3)))) then some 1 else some 2
def aO9 (c : aa3) (p30 : Int) (p31 : Int) (p33 : Str) : Option Bool :=
  some ((decide (c.Hz = p30)) && ((decide (c.Uz = p33)) && (decide (c.Err = p31))))
def aw1 (c : aa3) (p30 : Int) (p31 : Int) : Option Bool :=
  if (decide (p30 = 3)) then (ak6 c.Key).bind fun x38 => aO9 c p30 p31 x38 else aO9 c p30 p31 []
def aA7 (c : aa3) : Option Bool :=
  (if (decide (c.Id < 0)) then some true else if (decide (1048575 < c.Id)) then some true else (ah8 c.Pz).bind fun x3 => if (decide (x3 = 0)) then some true else if (!decide (c.Rz = 1)) then if (!decide (c.Rz = 2)) then some true else if (!decide ((length c.Own : Int) = 32)) then some true else if (decide (c.Step < 0)) then some true else (ah8 c.Pz).bind fun x9 => if (decide (x9 < c.Step)) then some true else (ak7 c.Key).bind fun x11 => some (!decide (x11 = 0)) else if (!decide ((length c.Own : Int) = 32)) then some true else if (decide (c.Step < 0)) then some true else (ah8 c.Pz).bind fun x14 => if (decide (x14 < c.Step)) then some true else (ak7 c.Key).bind fun x16 => some (!decide (x16 = 0))).bind fun t17 => if t17 then some false else (aw0 c).bind fun x19 => (if x19 then if (!decide ((length c.Ez : Int) = 32)) then some true else (aw0 c).bind fun x22 => if (!x22) then some (!decide (c.Ez = [])) else some false else (aw0 c).bind fun x24 => if (!x24) then some (!decide (c.Ez = [])) else some false).bind fun t26 => if t26 then some false else (aO8 c).bind fun x28 => if ((decide (x28 = 2)) && (decide (c.Hz = 4))) then aw1 c 4 28 else aw1 c x28 0
def aw2 (a : aa2) (i_1 : Int) : Option (Step Int Bool) :=
  if (decide (i_1 < (length a.Cz : Int))) then (ae2 a.Cz i_1).bind fun x43 => (if (decide (x43.Id < 1)) then some true else if (decide (a.Xz ≤ x43.Id)) then some true else if (decide (0 < i_1)) then (ae2 a.Cz (wrap .i64 (i_1 - 1))).bind fun x47 => if (decide (x43.Id ≤ x47.Id)) then some true else (av9 x43).bind fun x49 => if (!x49) then (aA7 x43).bind fun x51 => some (!x51) else some false else (av9 x43).bind fun x52 => if (!x52) then (aA7 x43).bind fun x54 => some (!x54) else some false).bind fun t55 => if t55 then some (.done false) else some (.cont (wrap .i64 (i_1 + 1))) else some (.done true)
def aw3 (a : aa2) (i : Int) : Option (Step Int Bool) :=
  if (decide (i < (length a.Kz : Int))) then (ae2 a.Kz i).bind fun x23 => (aF2 x23).bind fun x24 => (if (!x24) then some true else (ae2 a.Kz i).bind fun x26 => (ar4 x26).bind fun x27 => (aF3 a.Kz x27).bind fun x28 => some (!decide (x28 = i))).bind fun t29 => if t29 then some (.done false) else some (.cont (wrap .i64 (i + 1))) else (ab1 (fun s => aw2 a s) 0).map .done
def aw4 (a : aa2) : Option Bool :=
  (a28 a.Oz a.Sz).bind fun x1 => if ((!decide (x1.2 = 0)) || ((decide (64 < (length a.Kz : Int))) || (decide (32 < (length a.Cz : Int))))) then some false else if ((decide (a.Xz < 1)) || ((decide (1048560 < a.Xz)) || ((decide (a.Nz < 0)) || (decide (9007199254740991 < a.Nz))))) then some false else ab1 (fun s => aw3 a s) 0
def aw5 (owner : Str) (seed : Str) : Option (aa2 × Int) :=
  if ((decide (owner = [])) || (decide (32 < (length owner : Int)))) then some ((aa2.mk [] [] ([] : List (List aa1)) 0 ([] : List aa3) 0),25) else if (decide (1024 < (length seed : Int))) then some ((aa2.mk [] [] ([] : List (List aa1)) 0 ([] : List aa3) 0),4) else some ((aa2.mk owner seed ([] : List (List aa1)) 1 ([] : List aa3) 0),0)
def stringslite_Index (a0 : Str) (a1 : Str) : Option Int := bO1 a0 a1
def stringslite_Cut (s_ : Str) (sep : Str) : Option (Str × Str × Bool) :=
  (stringslite_Index s_ sep).bind fun x1 => if (decide (0 ≤ x1)) then (cut s_ 0 x1).bind fun x3 => (cut s_ (wrap .i64 (x1 + (length sep : Int))) (length s_ : Int)).bind fun x4 => some (x3,x4,true) else some (s_,[],false)
def strings_Cut (s_ : Str) (sep : Str) : Option (Str × Str × Bool) :=
  (stringslite_Cut s_ sep).bind fun x1 => some (x1.1,x1.2.1,x1.2.2)
def am9 : Option (List (List aa1)) :=
  some ([] : List (List aa1))
def ai3 : Option (List (List aa1)) :=
  (aE5 24 ([] : List (List aa1)) []).bind fun x1 => some x1
def ab4 (s_ : (List (List aa1))) : Option (List (List aa1)) :=
  (aE5 24 ([] : List (List aa1)) s_).bind fun x1 => some x1
def ap5 : Option (List aa1) :=
  some ([] : List aa1)
def ai7 : Option (List aa1) :=
  (aE5 40 ([] : List aa1) []).bind fun x1 => some x1
def aa5 (s_ : (List aa1)) : Option (List aa1) :=
  (aE5 40 ([] : List aa1) s_).bind fun x1 => some x1
def ap6 : Option (List aa3) :=
  some ([] : List aa3)
def ai8 : Option (List aa3) :=
  (aE5 128 ([] : List aa3) []).bind fun x1 => some x1
def ab9 (s_ : (List aa3)) : Option (List aa3) :=
  (aE5 128 ([] : List aa3) s_).bind fun x1 => some x1
def aq3 (a : aa2) (v7 : (List (List aa1))) (x13 : (List aa3)) (v18 : Int) (v19 : (List aa3)) : Option (Step (Int × (List aa3)) aa2) :=
  if (decide (v18 < (length x13 : Int))) then (ae2 v19 v18).bind fun x22 => (aa5 x22.Key).bind fun x23 => (ae2 v19 v18).bind fun x24 => some (.cont ((wrap .i64 (v18 + 1)),(set v19 (Int.toNat v18) {x24 with Key := x23}))) else some (.done {a with Kz := v7,Cz := v19})
def aP0 (a : aa2) (v7 : (List (List aa1))) : Option aa2 :=
  (ab9 a.Cz).bind fun x13 => ab1 (fun s => aq3 a v7 x13 s.1 s.2) (0,x13)
def az4 (a : aa2) (x1 : (List (List aa1))) (v6 : Int) (v7 : (List (List aa1))) : Option (Step (Int × (List (List aa1))) aa2) :=
  if (decide (v6 < (length x1 : Int))) then (ae2 v7 v6).bind fun x10 => (aa5 x10).bind fun x11 => (ae2 v7 v6).bind fun x12 => some (.cont ((wrap .i64 (v6 + 1)),(set v7 (Int.toNat v6) x11))) else (aP0 a v7).map .done
def ag2 (a : aa2) : Option aa2 :=
  (ab4 a.Kz).bind fun x1 => ab1 (fun s => az4 a x1 s.1 s.2) (0,x1)
def aU5 (c : Int) : Option Bool :=
  some ((decide (c = 32)) || (decide (c = 9)))
def stringslite_IndexByte (a0 : Str) (a1 : Int) : Option Int := a68 a0 a1
def strings_IndexByte (s_ : Str) (c : Int) : Option Int :=
  (stringslite_IndexByte s_ c).bind fun x1 => some x1
def aD2 (s_ : Str) (stops : Str) (v5 : Int) : Option (Step Int Int) :=
  if (decide (v5 < (length s_ : Int))) then (ah4 s_ v5).bind fun c8 => (strings_IndexByte stops (c8.toNat : Int)).bind fun x9 => if (decide (0 ≤ x9)) then some (.done v5) else some (.cont (wrap .i64 (v5 + 1))) else some (.done (length s_ : Int))
def au1 (s_ : Str) (stops : Str) : Option Int :=
  ab1 (fun s => aD2 s_ stops s) 0
def stringslite_HasPrefix (s_ : Str) (prefix_ : Str) : Option Bool :=
  (if (decide ((length prefix_ : Int) ≤ (length s_ : Int))) then (cut s_ 0 (length prefix_ : Int)).bind fun x2 => some (decide (x2 = prefix_)) else some false).bind fun t3 => some t3
def strings_HasPrefix (s_ : Str) (prefix_ : Str) : Option Bool :=
  (stringslite_HasPrefix s_ prefix_).bind fun x1 => some x1
def am4 (s_ : Str) (i : Int) (v12 : Str) : Option (Step (Int × Str) (Str × Int × Bool)) :=
  if (decide (i < (length s_ : Int))) then (ah4 s_ i).bind fun c15 => if (!decide ((c15.toNat : Int) = 39)) then (ah4 s_ i).bind fun c17 => (bAdd v12 [c17]).bind fun x18 => some (.cont ((wrap .i64 (i + 1)),x18)) else (if (decide ((wrap .i64 (i + 1)) = (length s_ : Int))) then some true else (ah4 s_ (wrap .i64 (i + 1))).bind fun c20 => some (!decide ((c20.toNat : Int) = 39))).bind fun t21 => if t21 then some (.done (v12,(wrap .i64 (i + 1)),true)) else (bAdd v12 [(39 : UInt8)]).bind fun x23 => some (.cont ((wrap .i64 ((wrap .i64 (i + 1)) + 1)),x23)) else some (.done ([],0,false))
def aX8 (s_ : Str) : Option (Str × Int × Bool) :=
  ab1 (fun s => am4 s_ s.1 s.2) (0,([] : Str))
def strings_Index (a0 : Str) (a1 : Str) : Option Int := bO1 a0 a1
def strings_Contains (s_ : Str) (substr : Str) : Option Bool :=
  (strings_Index s_ substr).bind fun x1 => some (decide (0 ≤ x1))
def aF4 (s_ : Str) (x2 : Str) (p5 : Int) (p6 : Str) (p7 : Bool) : Option (aa1 × Int × Int) :=
  (if (decide (p5 < (length s_ : Int))) then (ah4 s_ p5).bind fun c9 => (aU5 (c9.toNat : Int)).bind fun x10 => some (!x10) else some false).bind fun t11 => if t11 then some ((aa1.mk [] [] false),0,2) else some ((aa1.mk x2 p6 p7),p5,0)
def br4 (s_ : Str) : Option (aa1 × Int × Int) :=
  (au1 s_ [32,9,61,63,39]).bind fun x1 => (cut s_ 0 x1).bind fun x2 => (cut s_ x1 (length s_ : Int)).bind fun x3 => (strings_HasPrefix x3 [63]).bind fun x13 => if x13 then aF4 s_ x2 (wrap .i64 (x1 + 1)) [] true else (strings_HasPrefix x3 [61,39]).bind fun x15 => if x15 then (cut x3 2 (length x3 : Int)).bind fun x17 => (aX8 x17).bind fun x18 => if (!x18.2.2) then some ((aa1.mk [] [] false),0,48) else aF4 s_ x2 (wrap .i64 (x1 + (wrap .i64 (2 + x18.2.1)))) x18.1 false else (strings_HasPrefix x3 [61]).bind fun x20 => if x20 then (au1 x3 [32,9]).bind fun x22 => (cut x3 1 x22).bind fun x23 => (strings_Contains x23 [39]).bind fun x24 => if x24 then some ((aa1.mk [] [] false),0,2) else aF4 s_ x2 (wrap .i64 (x1 + x22)) x23 false else some ((aa1.mk [] [] false),0,2)
def stringslite_TrimPrefix (s_ : Str) (prefix_ : Str) : Option Str :=
  (stringslite_HasPrefix s_ prefix_).bind fun x1 => if x1 then (cut s_ (length prefix_ : Int) (length s_ : Int)).bind fun x3 => some x3 else some s_
def strings_TrimPrefix (s_ : Str) (prefix_ : Str) : Option Str :=
  (stringslite_TrimPrefix s_ prefix_).bind fun x1 => some x1
def aq4 (x1 : Str) (v23 : Int) : Option (Step Int Bool) :=
  if (decide (v23 < (length x1 : Int))) then (ah4 x1 v23).bind fun c26 => if (bif (decide ((c26.toNat : Int) < 97)) then (bif (decide ((c26.toNat : Int) < 48)) then ((!decide ((c26.toNat : Int) = 45)) && (!decide ((c26.toNat : Int) = 95))) else ((decide (57 < (c26.toNat : Int))) && ((!decide ((c26.toNat : Int) = 45)) && (!decide ((c26.toNat : Int) = 95))))) else ((decide (122 < (c26.toNat : Int))) && (bif (decide ((c26.toNat : Int) < 48)) then ((!decide ((c26.toNat : Int) = 45)) && (!decide ((c26.toNat : Int) = 95))) else ((decide (57 < (c26.toNat : Int))) && ((!decide ((c26.toNat : Int) = 45)) && (!decide ((c26.toNat : Int) = 95))))))) then some (.done false) else some (.cont (wrap .i64 (v23 + 1))) else some (.done true)
def aX9 (s_ : Str) : Option Bool :=
  (strings_TrimPrefix s_ [33]).bind fun x1 => (if (decide (x1 = [])) then some true else if (decide (32 < (length x1 : Int))) then some true else (ah4 x1 0).bind fun c4 => if (decide ((c4.toNat : Int) < 97)) then some true else (ah4 x1 0).bind fun c6 => some (decide (122 < (c6.toNat : Int)))).bind fun t7 => if t7 then some false else ab1 (fun s => aq4 x1 s) 0
def a29 (b : aa1) (a1 : aa1) : Option Bool :=
  some (decide (b.Mz = a1.Mz))
def ac1 (s_ : (List aa1)) (f : aa1) (v5 : Int) : Option (Step Int Int) :=
  if (decide (v5 < (length s_ : Int))) then (ae2 s_ v5).bind fun x8 => (a29 x8 f).bind fun x9 => if x9 then some (.done v5) else some (.cont (wrap .i64 (v5 + 1))) else some (.done (-1))
def ad8 (s_ : (List aa1)) (f : aa1) : Option Int :=
  ab1 (fun s => ac1 s_ f s) 0
def ac2 (s_ : (List aa1)) (f : aa1) : Option Bool :=
  (ad8 s_ f).bind fun x1 => some (decide (0 ≤ x1))
def aM9 (before : (List aa1)) (a : aa1) : Option Int :=
  if (decide (32 ≤ (length before : Int))) then some 22 else (aX9 a.Mz).bind fun x2 => if (!x2) then some 6 else if (a.Qz && (!decide (a.Value = []))) then some 2 else (au1 a.Value [0,10,13]).bind fun x7 => if (decide (x7 < (length a.Value : Int))) then some 2 else if (decide (1024 < (length a.Value : Int))) then some 4 else (ac2 before a).bind fun x10 => if x10 then some 7 else some 0
def az5 (i : Int) (out : (List aa1)) (x21 : (aa1 × Int × Int)) (p23 : Int) : Option (Step (Int × (List aa1)) ((List aa1) × Int × Int)) :=
  if (!decide (p23 = 0)) then some (.done (([] : List aa1),i,p23)) else (aE5 40 out [x21.1]).bind fun x25 => some (.cont ((wrap .i64 (i + x21.2.1)),x25))
def az6 (s_ : Str) (i : Int) (out : (List aa1)) : Option (Step (Int × (List aa1)) ((List aa1) × Int × Int)) :=
  if (decide (i < (length s_ : Int))) then (ah4 s_ i).bind fun c17 => (aU5 (c17.toNat : Int)).bind fun x18 => if x18 then some (.cont ((wrap .i64 (i + 1)),out)) else (cut s_ i (length s_ : Int)).bind fun x20 => (br4 x20).bind fun x21 => if (decide (x21.2.2 = 0)) then (aM9 out x21.1).bind fun x27 => az5 i out x21 x27 else az5 i out x21 x21.2.2 else some (.done (out,0,0))
def aF5 (s_ : Str) : Option ((List aa1) × Int × Int) :=
  ab1 (fun s => az6 s_ s.1 s.2) (0,([] : List aa1))
def aD3 (l : (List aa1)) (v6 : Int) : Option (Step Int Int) :=
  if (decide (v6 < (length l : Int))) then (ae2 l v6).bind fun x9 => (cut l 0 v6).bind fun x10 => (aM9 x10 x9).bind fun x11 => if (!decide (x11 = 0)) then some (.done x11) else some (.cont (wrap .i64 (v6 + 1))) else some (.done 0)
def aF6 (l : (List aa1)) : Option Int :=
  ab1 (fun s => aD3 l s) 0
def bc1 (a : aa1) : Option Bool :=
  some a.Qz
def ac3 (s_ : (List aa1)) (v5 : Int) : Option (Step Int Int) :=
  if (decide (v5 < (length s_ : Int))) then (ae2 s_ v5).bind fun x8 => (bc1 x8).bind fun x9 => if x9 then some (.done v5) else some (.cont (wrap .i64 (v5 + 1))) else some (.done (-1))
def ad9 (s_ : (List aa1)) : Option Int :=
  ab1 (fun s => ac3 s_ s) 0
def ac4 (s_ : (List aa1)) : Option Bool :=
  (ad9 s_).bind fun x1 => some (decide (0 ≤ x1))
def a30 (a : aa1) (a1 : Str) : Option Bool :=
  some ((!a.Qz) && (decide (a.Mz = a1)))
def ac5 (s_ : (List aa1)) (f : Str) (v5 : Int) : Option (Step Int Int) :=
  if (decide (v5 < (length s_ : Int))) then (ae2 s_ v5).bind fun x8 => (a30 x8 f).bind fun x9 => if x9 then some (.done v5) else some (.cont (wrap .i64 (v5 + 1))) else some (.done (-1))
def ag8 (s_ : (List aa1)) (f : Str) : Option Int :=
  ab1 (fun s => ac5 s_ f s) 0
def a71 (l : (List aa1)) (name : Str) : Option Int :=
  (ag8 l name).bind fun x1 => some x1
def aw6 (l : (List aa1)) (name : Str) : Option (Str × Bool) :=
  (a71 l name).bind fun x1 => if (decide (x1 < 0)) then some ([],false) else (ae2 l x1).bind fun x3 => some (x3.Value,true)
def a32 (l : (List aa1)) : Option Bool :=
  (aF6 l).bind fun x1 => (if (!decide (x1 = 0)) then some true else (ac4 l).bind fun x3 => some x3).bind fun t4 => if t4 then some false else (aw6 l [117,115,101,114]).bind fun x6 => (aw6 l [33,115,101,99,114,101,116]).bind fun x7 => some (x6.2 && (x7.2 && ((!decide (x6.1 = [])) && ((decide ((length x6.1 : Int) ≤ 32)) && ((!decide (x7.1 = [])) && (decide ((length x7.1 : Int) ≤ 64)))))))
def aD4 (a : aa1) : Option Bool :=
  (strings_HasPrefix a.Mz [33]).bind fun x1 => some x1
def ac6 (s_ : (List aa1)) (v5 : Int) : Option (Step Int Int) :=
  if (decide (v5 < (length s_ : Int))) then (ae2 s_ v5).bind fun x8 => (aD4 x8).bind fun x9 => if x9 then some (.done v5) else some (.cont (wrap .i64 (v5 + 1))) else some (.done (-1))
def ae0 (s_ : (List aa1)) : Option Int :=
  ab1 (fun s => ac6 s_ s) 0
def ae4 (i : Int) (s__1 : (List aa1)) : Option (List aa1) :=
  (cut s__1 0 i).bind fun x17 => some x17
def ab7 (i : Int) (j : Int) (s__1 : (List aa1)) : Option (Step (Int × Int × (List aa1)) (List aa1)) :=
  if (decide (j < (length s__1 : Int))) then (ae2 s__1 j).bind fun x13 => (aD4 x13).bind fun x14 => if (!x14) then (ae2 s__1 i).bind fun x16 => some (.cont ((wrap .i64 (i + 1)),(wrap .i64 (j + 1)),(set s__1 (Int.toNat i) x13))) else some (.cont (i,(wrap .i64 (j + 1)),s__1)) else (ae4 i s__1).map .done
def ag0 (s_ : (List aa1)) : Option (List aa1) :=
  (ae0 s_).bind fun x1 => if (decide (x1 = (-1))) then some s_ else ab1 (fun s => ab7 s.1 s.2.1 s.2.2) (x1,(wrap .i64 (x1 + 1)),s_)
def aF7 (l : (List aa1)) : Option (List aa1) :=
  (aa5 l).bind fun x1 => (ag0 x1).bind fun x2 => some x2
def ae5 (s1 : (List aa1)) (s2 : (List aa1)) (v6 : Int) : Option (Step Int Bool) :=
  if (decide (v6 < (length s1 : Int))) then (ae2 s1 v6).bind fun x9 => (ae2 s2 v6).bind fun x10 => if (!(decide (x9.Mz = x10.Mz) && (decide (x9.Value = x10.Value) && (decide (x9.Qz = x10.Qz) && true)))) then some (.done false) else some (.cont (wrap .i64 (v6 + 1))) else some (.done true)
def ah7 (s1 : (List aa1)) (s2 : (List aa1)) : Option Bool :=
  if (!decide ((length s1 : Int) = (length s2 : Int))) then some false else ab1 (fun s => ae5 s1 s2 s) 0
def aP1 (a : (List aa1)) (b : (List aa1)) : Option Bool :=
  (aF7 a).bind fun x1 => (aF7 b).bind fun x2 => (ah7 x1 x2).bind fun x3 => some x3
def bc2 (o : (List aa1)) (a1 : (List aa1)) : Option Bool :=
  (aP1 o a1).bind fun x1 => some x1
def ad2 (s_ : (List (List aa1))) (f : (List aa1)) (v5 : Int) : Option (Step Int Int) :=
  if (decide (v5 < (length s_ : Int))) then (ae2 s_ v5).bind fun x8 => (bc2 x8 f).bind fun x9 => if x9 then some (.done v5) else some (.cont (wrap .i64 (v5 + 1))) else some (.done (-1))
def ae6 (s_ : (List (List aa1))) (f : (List aa1)) : Option Int :=
  ab1 (fun s => ad2 s_ f s) 0
def bg0 (a : aa2) (text : Str) : Option (aa2 × Int) :=
  (ag2 a).bind fun x1 => (aF5 text).bind fun x2 => if (!decide (x2.2.2 = 0)) then some (x1,x2.2.2) else (a32 x2.1).bind fun x4 => if (!x4) then some (x1,52) else (ae6 x1.Kz x2.1).bind fun x6 => if (decide (0 ≤ x6)) then (ae2 x1.Kz x6).bind fun x8 => some ({x1 with Kz := set x1.Kz (Int.toNat x6) x2.1},0) else if (decide (64 ≤ (length x1.Kz : Int))) then some (x1,22) else (aE5 24 x1.Kz [x2.1]).bind fun x10 => some ({x1 with Kz := x10},0)
def aw7 (l : (List aa1)) (pattern : (List aa1)) (v8 : Int) : Option (Step Int Bool) :=
  if (decide (v8 < (length pattern : Int))) then (ae2 pattern v8).bind fun x11 => (aw6 l x11.Mz).bind fun x12 => if ((!x12.2) || ((!x11.Qz) && (!decide (x12.1 = x11.Value)))) then some (.done false) else some (.cont (wrap .i64 (v8 + 1))) else some (.done true)
def aB3 (l : (List aa1)) (pattern : (List aa1)) : Option Bool :=
  ab1 (fun s => aw7 l pattern s) 0
def az7 (k : (List aa1)) (a1 : (List aa1)) : Option Bool :=
  (aB3 k a1).bind fun x1 => some x1
def ad3 (s_ : (List (List aa1))) (f : (List aa1)) (v5 : Int) : Option (Step Int Int) :=
  if (decide (v5 < (length s_ : Int))) then (ae2 s_ v5).bind fun x8 => (az7 x8 f).bind fun x9 => if x9 then some (.done v5) else some (.cont (wrap .i64 (v5 + 1))) else some (.done (-1))
def ae7 (s_ : (List (List aa1))) (f : (List aa1)) : Option Int :=
  ab1 (fun s => ad3 s_ f s) 0
def af4 (i : Int) (s__1 : (List (List aa1))) : Option (List (List aa1)) :=
  (cut s__1 0 i).bind fun x17 => some x17
def ac0 (del : (List aa1)) (i : Int) (j : Int) (s__1 : (List (List aa1))) : Option (Step (Int × Int × (List (List aa1))) (List (List aa1))) :=
  if (decide (j < (length s__1 : Int))) then (ae2 s__1 j).bind fun x13 => (az7 x13 del).bind fun x14 => if (!x14) then (ae2 s__1 i).bind fun x16 => some (.cont ((wrap .i64 (i + 1)),(wrap .i64 (j + 1)),(set s__1 (Int.toNat i) x13))) else some (.cont (i,(wrap .i64 (j + 1)),s__1)) else (af4 i s__1).map .done
def ad4 (s_ : (List (List aa1))) (del : (List aa1)) : Option (List (List aa1)) :=
  (ae7 s_ del).bind fun x1 => if (decide (x1 = (-1))) then some s_ else ab1 (fun s => ac0 del s.1 s.2.1 s.2.2) (x1,(wrap .i64 (x1 + 1)),s_)
def aS0 (a : aa2) (text : Str) : Option (aa2 × Int) :=
  (ag2 a).bind fun x1 => (aF5 text).bind fun x2 => if (!decide (x2.2.2 = 0)) then some (x1,x2.2.2) else (ad4 x1.Kz x2.1).bind fun x4 => if (decide ((length x4 : Int) = (length x1.Kz : Int))) then (ag2 a).bind fun x6 => some (x6,52) else some ({x1 with Kz := x4},0)
def ah5 (a : aa2) (line : Str) : Option (aa2 × Int) :=
  (strings_Cut line [32]).bind fun x1 => if (x1.2.2 && (decide (x1.1 = [107,101,121]))) then (bg0 a x1.2.1).bind fun x5 => some (x5.1,x5.2) else if (x1.2.2 && (decide (x1.1 = [100,101,108,107,101,121]))) then (aS0 a x1.2.1).bind fun x9 => some (x9.1,x9.2) else (ag2 a).bind fun x10 => some (x10,54)
def a33 (c : aa3) (a1 : Int) : Option Bool :=
  some (decide (c.Id = (wrap .i64 (a1 - 16))))
def ab6 (s_ : (List aa3)) (f : Int) (v5 : Int) : Option (Step Int Int) :=
  if (decide (v5 < (length s_ : Int))) then (ae2 s_ v5).bind fun x8 => (a33 x8 f).bind fun x9 => if x9 then some (.done v5) else some (.cont (wrap .i64 (v5 + 1))) else some (.done (-1))
def ah6 (s_ : (List aa3)) (f : Int) : Option Int :=
  ab1 (fun s => ab6 s_ f s) 0
def aB4 (a : aa2) (id : Int) : Option Int :=
  (ah6 a.Cz id).bind fun x1 => some x1
def an7 (a : aa2) (id : Int) : Option Bool :=
  (if (decide (1 ≤ id)) then if (decide (id ≤ 4)) then some true else (aB4 a id).bind fun x3 => some (decide (0 ≤ x3)) else (aB4 a id).bind fun x4 => some (decide (0 ≤ x4))).bind fun t5 => some t5
def aw8 (c : aa3) : Option Bool :=
  some ((decide (c.Pz = [])) && ((decide (c.Rz = 0)) && ((decide (c.Hz = 0)) && ((decide (c.Step = 0)) && ((decide ((length c.Key : Int) = 0)) && ((decide (c.Own = [])) && ((decide (c.Ez = [])) && ((decide (c.Uz = [])) && (decide (c.Err = 0))))))))))
def ap1 (c : aa3) : Option aa3 :=
  (aa5 c.Key).bind fun x1 => some {c with Key := x1}
def av0 (t_ : aa4) : Option Int :=
  if (decide (t_.Conv.Pz = [99,104,97,108])) then some 0 else if (decide (t_.Conv.Pz = [109,117,116,117,97,108])) then some 1 else some 2
def at3 (t_ : aa4) : Option (Str × Str) :=
  if (decide (t_.Conv.Rz = 1)) then some (t_.Conv.Own,t_.Conv.Ez) else some (t_.Conv.Ez,t_.Conv.Own)
def ad7 (t_ : aa4) (name : Str) : Option Str :=
  (aw6 t_.Conv.Key name).bind fun x1 => some x1.1
def an8 (n : Int) (x9 : (List Int)) (v13 : Int) (out : (List Int)) : Option (Step (Int × (List Int)) (Str × Int)) :=
  if (decide (v13 < (length x9 : Int))) then (bv0 .i64 n (wrap .i64 (8 * v13))).bind fun x17 => (ae2 out v13).bind fun x18 => some (.cont ((wrap .i64 (v13 + 1)),(set out (Int.toNat v13) (wrap .u8 x17)))) else some (.done ((bI2 out),0))
def a34 (n : Int) (width : Int) : Option (Str × Int) :=
  if ((decide (width < 1)) || (decide (8 < width))) then some ([],1) else (if (decide (n < 0)) then some true else if (decide (width < 8)) then (bv0 .i64 n (wrap .i64 (8 * width))).bind fun x6 => some (decide (0 < x6)) else some false).bind fun t7 => if t7 then some ([],5) else (mkC 1 (0 : Int) width width).bind fun x9 => ab1 (fun s => an8 n x9 s.1 s.2) (0,x9)
def aY0 (s_ : Str) : Option (Str × Int) :=
  if (decide (65535 < (length s_ : Int))) then some ([],4) else (a34 (length s_ : Int) 2).bind fun x2 => (aj2 x2.1 s_).bind fun x3 => some (x3,x2.2)
def ar5 (s_ : Str) : Option Str :=
  (aY0 s_).bind fun x1 => some x1.1
def ar6 (s_ : Str) (i : Int) (v12 : Str) : Option (Step (Int × Str) Str) :=
  if (decide (0 ≤ i)) then (bv0 .u64 (wrap .u64 (8 * (wrap .u64 (length s_ : Int)))) i).bind fun x15 => (bAdd v12 [(u8w x15)]).bind fun x16 => some (.cont ((wrap .i64 (i - 8)),x16)) else some (.done v12)
def aP2 (s_ : Str) (v5 : Str) : Option (Step Str Str) :=
  if (!decide ((tmod (length v5 : Int) 64) = 56)) then (bAdd v5 [(0 : UInt8)]).bind fun x8 => some (.cont x8) else (ab1 (fun s => ar6 s_ s.1 s.2) (56,v5)).map .done
def br5 (s_ : Str) : Option Str :=
  (bAdd ([] : Str) s_).bind fun x1 => (bAdd x1 [(128 : UInt8)]).bind fun x2 => ab1 (fun s => aP2 s_ s) x2
def bg1 (s_ : Str) : Option Int :=
  (ah4 s_ 0).bind fun c1 => (cd0 .u32 (wrap .u32 (c1.toNat : Int)) 24).bind fun x2 => (ah4 s_ 1).bind fun c3 => (cd0 .u32 (wrap .u32 (c3.toNat : Int)) 16).bind fun x4 => (ah4 s_ 2).bind fun c5 => (cd0 .u32 (wrap .u32 (c5.toNat : Int)) 8).bind fun x6 => (ah4 s_ 3).bind fun c7 => some (wrap .u32 ((ofInt (IntKind.bits .u32) (wrap .u32 ((ofInt (IntKind.bits .u32) (wrap .u32 ((ofInt (IntKind.bits .u32) x2 ||| (ofInt (IntKind.bits .u32) x4)).toNat : Nat)) ||| (ofInt (IntKind.bits .u32) x6)).toNat : Nat)) ||| (ofInt (IntKind.bits .u32) (wrap .u32 (c7.toNat : Int)))).toNat : Nat))
def au7 (x_ : Int) (k : Int) : Option Int :=
  (cd0 .u32 x_ (wrap .u64 ((ofInt (IntKind.bits .u64) (wrap .u64 k) &&& (ofInt (IntKind.bits .u64) 31)).toNat : Nat))).bind fun x1 => (bv0 .u32 x_ (wrap .u64 (32 - (wrap .u64 ((ofInt (IntKind.bits .u64) (wrap .u64 k) &&& (ofInt (IntKind.bits .u64) 31)).toNat : Nat))))).bind fun x2 => some (wrap .u32 ((ofInt (IntKind.bits .u32) x1 ||| (ofInt (IntKind.bits .u32) x2)).toNat : Nat))
def af8 (x_ : Int) (n : Int) : Option Int :=
  (au7 x_ (wrap .i64 (0 - n))).bind fun x1 => some x1
def aF8 (v5 : (List Int)) : Option (List Int) :=
  (bb8 64 v5).bind fun x29 => some v5
def an4 (block : Str) (v4 : Int) (v5 : (List Int)) : Option (Step (Int × (List Int)) (List Int)) :=
  if (decide (v4 < 64)) then if (decide (v4 < 16)) then (cut block (wrap .i64 (4 * v4)) (length block : Int)).bind fun x9 => (bg1 x9).bind fun x10 => (bU8 64 v4).bind fun x11 => (aK3 v5 v4 x10).bind fun x12 => some (.cont ((wrap .i64 (v4 + 1)),x12)) else (bU8 64 (wrap .i64 (v4 - 15))).bind fun x13 => (ae2 v5 (wrap .i64 (v4 - 15))).bind fun x14 => (bU8 64 (wrap .i64 (v4 - 2))).bind fun x15 => (ae2 v5 (wrap .i64 (v4 - 2))).bind fun x16 => (af8 x14 7).bind fun x17 => (af8 x14 18).bind fun x18 => (bv0 .u32 x14 3).bind fun x19 => (af8 x16 17).bind fun x20 => (af8 x16 19).bind fun x21 => (bv0 .u32 x16 10).bind fun x22 => (bU8 64 (wrap .i64 (v4 - 16))).bind fun x23 => (ae2 v5 (wrap .i64 (v4 - 16))).bind fun x24 => (bU8 64 (wrap .i64 (v4 - 7))).bind fun x25 => (ae2 v5 (wrap .i64 (v4 - 7))).bind fun x26 => (bU8 64 v4).bind fun x27 => (aK3 v5 v4 (wrap .u32 ((wrap .u32 ((wrap .u32 (x24 + (wrap .u32 ((ofInt (IntKind.bits .u32) (wrap .u32 ((ofInt (IntKind.bits .u32) x17 ^^^ (ofInt (IntKind.bits .u32) x18)).toNat : Nat)) ^^^ (ofInt (IntKind.bits .u32) x19)).toNat : Nat)))) + x26)) + (wrap .u32 ((ofInt (IntKind.bits .u32) (wrap .u32 ((ofInt (IntKind.bits .u32) x20 ^^^ (ofInt (IntKind.bits .u32) x21)).toNat : Nat)) ^^^ (ofInt (IntKind.bits .u32) x22)).toNat : Nat))))).bind fun x28 => some (.cont ((wrap .i64 (v4 + 1)),x28)) else (aF8 v5).map .done
def aL7 (block : Str) : Option (List Int) :=
  ab1 (fun s => an4 block s.1 s.2) (0,(List.replicate 64 (0 : Int)))
def bo2 (v47 : (List Int)) : Option (List Int) :=
  (bb8 8 v47).bind fun x56 => some v47
def ad0 (v22 : (List Int)) (v46 : Int) (v47 : (List Int)) : Option (Step (Int × (List Int)) (List Int)) :=
  if (decide (v46 < 8)) then (bU8 8 v46).bind fun x50 => (ae2 v47 v46).bind fun x51 => (bU8 8 v46).bind fun x52 => (ae2 v22 v46).bind fun x53 => (bU8 8 v46).bind fun x54 => (aK3 v47 v46 (wrap .u32 (x51 + x53))).bind fun x55 => some (.cont ((wrap .i64 (v46 + 1)),x55)) else (bo2 v47).map .done
def aI6 (h_ : (List Int)) (x2 : (List Int)) (v21 : Int) (v22 : (List Int)) : Option (Step (Int × (List Int)) (List Int)) :=
  if (decide (v21 < 64)) then (ae2 v22 0).bind fun x25 => (ae2 v22 1).bind fun x26 => (ae2 v22 2).bind fun x27 => (ae2 v22 4).bind fun x28 => (ae2 v22 5).bind fun x29 => (ae2 v22 6).bind fun x30 => (ae2 v22 7).bind fun x31 => (af8 x28 6).bind fun x32 => (af8 x28 11).bind fun x33 => (af8 x28 25).bind fun x34 => (bU8 64 v21).bind fun x35 => (ae2 aj0 v21).bind fun x36 => (bU8 64 v21).bind fun x37 => (ae2 x2 v21).bind fun x38 => (af8 x25 2).bind fun x39 => (af8 x25 13).bind fun x40 => (af8 x25 22).bind fun x41 => (ae2 v22 3).bind fun x42 => some (.cont ((wrap .i64 (v21 + 1)),([(wrap .u32 ((wrap .u32 ((wrap .u32 ((wrap .u32 ((wrap .u32 (x31 + (wrap .u32 ((ofInt (IntKind.bits .u32) (wrap .u32 ((ofInt (IntKind.bits .u32) x32 ^^^ (ofInt (IntKind.bits .u32) x33)).toNat : Nat)) ^^^ (ofInt (IntKind.bits .u32) x34)).toNat : Nat)))) + (wrap .u32 ((ofInt (IntKind.bits .u32) (wrap .u32 ((ofInt (IntKind.bits .u32) x28 &&& (ofInt (IntKind.bits .u32) x29)).toNat : Nat)) ^^^ (ofInt (IntKind.bits .u32) (wrap .u32 ((ofInt (IntKind.bits .u32) (notI .u32 x28) &&& (ofInt (IntKind.bits .u32) x30)).toNat : Nat)))).toNat : Nat)))) + x36)) + x38)) + (wrap .u32 ((wrap .u32 ((ofInt (IntKind.bits .u32) (wrap .u32 ((ofInt (IntKind.bits .u32) x39 ^^^ (ofInt (IntKind.bits .u32) x40)).toNat : Nat)) ^^^ (ofInt (IntKind.bits .u32) x41)).toNat : Nat)) + (wrap .u32 ((ofInt (IntKind.bits .u32) (wrap .u32 ((ofInt (IntKind.bits .u32) (wrap .u32 ((ofInt (IntKind.bits .u32) x25 &&& (ofInt (IntKind.bits .u32) x26)).toNat : Nat)) ^^^ (ofInt (IntKind.bits .u32) (wrap .u32 ((ofInt (IntKind.bits .u32) x25 &&& (ofInt (IntKind.bits .u32) x27)).toNat : Nat)))).toNat : Nat)) ^^^ (ofInt (IntKind.bits .u32) (wrap .u32 ((ofInt (IntKind.bits .u32) x26 &&& (ofInt (IntKind.bits .u32) x27)).toNat : Nat)))).toNat : Nat)))))),x25,x26,x27,(wrap .u32 (x42 + (wrap .u32 ((wrap .u32 ((wrap .u32 ((wrap .u32 (x31 + (wrap .u32 ((ofInt (IntKind.bits .u32) (wrap .u32 ((ofInt (IntKind.bits .u32) x32 ^^^ (ofInt (IntKind.bits .u32) x33)).toNat : Nat)) ^^^ (ofInt (IntKind.bits .u32) x34)).toNat : Nat)))) + (wrap .u32 ((ofInt (IntKind.bits .u32) (wrap .u32 ((ofInt (IntKind.bits .u32) x28 &&& (ofInt (IntKind.bits .u32) x29)).toNat : Nat)) ^^^ (ofInt (IntKind.bits .u32) (wrap .u32 ((ofInt (IntKind.bits .u32) (notI .u32 x28) &&& (ofInt (IntKind.bits .u32) x30)).toNat : Nat)))).toNat : Nat)))) + x36)) + x38)))),x28,x29,x30] : List Int))) else (ab1 (fun s => ad0 v22 s.1 s.2) (0,h_)).map .done
def bg2 (h_ : (List Int)) (block : Str) : Option (List Int) :=
  (bb8 8 h_).bind fun x1 => (aL7 block).bind fun x2 => (bb8 64 x2).bind fun x3 => (bb8 8 h_).bind fun x4 => ab1 (fun s => aI6 h_ x2 s.1 s.2) (0,h_)
def aB5 (v8 : (List Int)) (v21 : Int) (out : (List Int)) : Option (Step (Int × (List Int)) Str) :=
  if (decide (v21 < 8)) then (bU9 8 v8 v21).bind fun x25 => (bv0 .u32 x25 24).bind fun x26 => (bv0 .u32 x25 16).bind fun x27 => (bv0 .u32 x25 8).bind fun x28 => (aE5 1 out [(wrap .u8 x26),(wrap .u8 x27),(wrap .u8 x28),(wrap .u8 x25)]).bind fun x29 => some (.cont ((wrap .i64 (v21 + 1)),x29)) else some (.done (bI2 out))
def aS1 (v8 : (List Int)) : Option Str :=
  (mkC 1 (0 : Int) 0 32).bind fun x15 => ab1 (fun s => aB5 v8 s.1 s.2) (0,x15)
def aP3 (p : Str) (v8 : (List Int)) : Option (Step (Str × (List Int)) Str) :=
  if (!decide (p = [])) then (cut p 0 64).bind fun x11 => (bg2 v8 x11).bind fun x12 => (bb8 8 x12).bind fun x13 => (cut p 64 (length p : Int)).bind fun x14 => some (.cont (x14,x12)) else (aS1 v8).map .done
def aY1 (s_ : Str) : Option Str :=
  (br5 s_).bind fun x1 => ab1 (fun s => aP3 s.1 s.2) (x1,([1779033703,3144134277,1013904242,2773480762,1359893119,2600822924,528734635,1541459225] : List Int))
def au2 (key : Str) (with_ : Int) (x1 : (List Int)) (v5 : Int) (out : (List Int)) : Option (Step (Int × (List Int)) Str) :=
  if (decide (v5 < (length (cpB key x1) : Int))) then (ae2 out v5).bind fun x9 => (ae2 out v5).bind fun x10 => some (.cont ((wrap .i64 (v5 + 1)),(set out (Int.toNat v5) (wrap .u8 ((ofInt (IntKind.bits .u8) x9 ^^^ (ofInt (IntKind.bits .u8) with_)).toNat : Nat))))) else some (.done (bI2 out))
def aF9 (key : Str) (with_ : Int) : Option Str :=
  (mkC 1 (0 : Int) 64 64).bind fun x1 => ab1 (fun s => au2 key with_ x1 s.1 s.2) (0,(cpB key x1))
def aP4 (s_ : Str) (p2 : Str) : Option Str :=
  (aF9 p2 92).bind fun x3 => (aF9 p2 54).bind fun x4 => (aj2 x4 s_).bind fun x5 => (aY1 x5).bind fun x6 => (aj2 x3 x6).bind fun x7 => (aY1 x7).bind fun x8 => some x8
def bg3 (key : Str) (s_ : Str) : Option Str :=
  if (decide (64 < (length key : Int))) then (aY1 key).bind fun x10 => aP4 s_ x10 else aP4 s_ key
def ay8 (t_ : aa4) (s_ : Str) : Option Str :=
  (ad7 t_ [33,115,101,99,114,101,116]).bind fun x1 => (bg3 x1 s_).bind fun x2 => some x2
def ak8 (t_ : aa4) (n : Int) : Option Str :=
  (at3 t_).bind fun x1 => if (decide (n = 0)) then some x1.2 else if (decide (n = 1)) then (ad7 t_ [117,115,101,114]).bind fun x4 => (ar5 x4).bind fun x5 => (ay8 t_ x1.2).bind fun x6 => (aj2 x5 x6).bind fun x7 => some x7 else some [111,107]
def ai6 (t_ : aa4) (n : Int) : Option Str :=
  (at3 t_).bind fun x1 => if (decide (n = 0)) then (ad7 t_ [117,115,101,114]).bind fun x3 => (ar5 x3).bind fun x4 => (aj2 x4 x1.1).bind fun x5 => some x5 else if (decide (n = 1)) then (aj2 [115,101,114,118,101,114] x1.1).bind fun x7 => (aj2 x7 x1.2).bind fun x8 => (ay8 t_ x8).bind fun x9 => (aj2 x1.2 x9).bind fun x10 => some x10 else (aj2 [99,108,105,101,110,116] x1.1).bind fun x11 => (aj2 x11 x1.2).bind fun x12 => (ay8 t_ x12).bind fun x13 => some x13
def aj3 (t_ : aa4) (n : Int) : Option Str :=
  if (decide (n = 0)) then (ad7 t_ [117,115,101,114]).bind fun x2 => (ar5 x2).bind fun x3 => (ad7 t_ [33,115,101,99,114,101,116]).bind fun x4 => (ar5 x4).bind fun x5 => (aj2 x3 x5).bind fun x6 => some x6 else some [111,107]
def aP5 (proto : Str) : Option Int :=
  if (decide (proto = [112,108,97,105,110])) then some 2 else some 3
def aL8 (role : Int) (n : Int) (p2 : Int) : Option Bool :=
  some (decide ((decide ((tmod n 2) = 0)) = (decide (role = p2))))
def aU6 (proto : Str) (role : Int) (n : Int) : Option Bool :=
  if (decide (proto = [99,104,97,108])) then aL8 role n 2 else aL8 role n 1
def aU7 (c : aa3) : Option Int :=
  (aP5 c.Pz).bind fun x1 => if (decide (c.Step = x1)) then some 3 else (aU6 c.Pz c.Rz c.Step).bind fun x3 => if x3 then some 1 else some 2
def an9 (c : aa3) : Option aa3 :=
  (aa5 c.Key).bind fun x1 => (aU7 {c with Key := x1}).bind fun x2 => if (decide (x2 = 3)) then (ad7 (aa4.mk {c with Hz := x2,Key := x1,Uz := []}) [117,115,101,114]).bind fun x4 => some {c with Hz := x2,Key := x1,Uz := x4} else some {c with Hz := x2,Key := x1,Uz := []}
def bg4 (c : aa3) : Option (aa3 × Str × Int) :=
  if (!decide (c.Hz = 1)) then (ap1 c).bind fun x2 => some (x2,[],53) else (if (decide ((aa4.mk c).Conv.Pz = [99,104,97,108])) then (ak8 (aa4.mk c) c.Step).bind fun x4 => some x4 else if (decide ((aa4.mk c).Conv.Pz = [109,117,116,117,97,108])) then (ai6 (aa4.mk c) c.Step).bind fun x6 => some x6 else (aj3 (aa4.mk c) c.Step).bind fun x7 => some x7).bind fun t8 => (an9 {c with Step := wrap .i64 (c.Step + 1)}).bind fun x9 => some (x9,t8,0)
def a73 (a : aa2) (i : Int) (count : Int) : Option (aa2 × Str × Int) :=
  (ag2 a).bind fun x1 => (ae2 a.Cz i).bind fun x2 => (aw8 x2).bind fun x3 => if x3 then some (x1,[],53) else (ae2 a.Cz i).bind fun x5 => (bg4 x5).bind fun x6 => if (!decide (x6.2.2 = 0)) then some (x1,[],x6.2.2) else if (decide (count < (length x6.2.1 : Int))) then some (x1,[],3) else (ae2 x1.Cz i).bind fun x9 => some ({x1 with Cz := set x1.Cz (Int.toNat i) x6.1},x6.2.1,0)
def strings_ReplaceAll (a0 : Str) (a1 : Str) (a2 : Str) : Option Str := aX6 a0 a1 a2
def a74 (s_ : Str) : Option Str :=
  (if (!decide (s_ = [])) then (au1 s_ [32,9,39]).bind fun x2 => some (decide (x2 = (length s_ : Int))) else some false).bind fun t3 => if t3 then some s_ else (strings_ReplaceAll s_ [39] [39,39]).bind fun x5 => (aj2 [39] x5).bind fun x6 => (aj2 x6 [39]).bind fun x7 => some x7
def strings_Join (a0 : (List Str)) (a1 : Str) : Option Str := ci3 a0 a1
def aT3 (words : (List Str)) : Option (Str × Int) :=
  (strings_Join words [32]).bind fun x25 => some (x25,0)
def az8 (l : (List aa1)) (v13 : Int) (words : (List Str)) : Option (Step (Int × (List Str)) (Str × Int)) :=
  if (decide (v13 < (length l : Int))) then (ae2 l v13).bind fun x17 => if x17.Qz then (aj2 x17.Mz [63]).bind fun x19 => (aE5 16 words [x19]).bind fun x20 => some (.cont ((wrap .i64 (v13 + 1)),x20)) else (aj2 x17.Mz [61]).bind fun x21 => (a74 x17.Value).bind fun x22 => (aj2 x21 x22).bind fun x23 => (aE5 16 words [x23]).bind fun x24 => some (.cont ((wrap .i64 (v13 + 1)),x24)) else (aT3 words).map .done
def a77 (l : (List aa1)) : Option (Str × Int) :=
  (aF6 l).bind fun x1 => if (!decide (x1 = 0)) then some ([],x1) else (mkC 16 ([] : Str) 0 (length l : Int)).bind fun x3 => ab1 (fun s => az8 l s.1 s.2) (0,x3)
def as3 : Option (List Str) :=
  some [[99,104,97,108],[109,117,116,117,97,108],[112,108,97,105,110]]
def aq5 (p2 : Str) : Option Str :=
  some p2
def ao0 (a : aa2) (v11 : Int) (v12 : Str) : Option (Step (Int × Str) Str) :=
  if (decide (v11 < (length a.Kz : Int))) then (ae2 a.Kz v11).bind fun x15 => (aF7 x15).bind fun x16 => (a77 x16).bind fun x17 => (aj2 [107,101,121,32] x17.1).bind fun x18 => (aj2 x18 [10]).bind fun x19 => (bAdd v12 x19).bind fun x20 => some (.cont ((wrap .i64 (v11 + 1)),x20)) else (aq5 v12).map .done
def aj7 (x22 : (List Str)) (v27 : Int) (v28 : Str) : Option (Step (Int × Str) Str) :=
  if (decide (v27 < (length x22 : Int))) then (ae2 x22 v27).bind fun x31 => (aj2 x31 [10]).bind fun x32 => (bAdd v28 x32).bind fun x33 => some (.cont ((wrap .i64 (v27 + 1)),x33)) else (aq5 v28).map .done
def aH1 (a : aa2) (id : Int) : Option Str :=
  if (decide (id = 2)) then ab1 (fun s => ao0 a s.1 s.2) (0,([] : Str)) else if (decide (id = 3)) then (as3).bind fun x22 => ab1 (fun s => aj7 x22 s.1 s.2) (0,([] : Str)) else aq5 ([] : Str)
def ai5 (a : aa2) (id : Int) (offset : Int) (count : Int) : Option (aa2 × Str × Int) :=
  (ag2 a).bind fun x1 => (an7 a id).bind fun x2 => if (!x2) then some (x1,[],8) else if (decide (id = 1)) then some (x1,[],10) else if ((decide (offset < 0)) || (decide (count < 0))) then some (x1,[],1) else (aB4 a id).bind fun x8 => if (decide (0 ≤ x8)) then (a73 a x8 (min count 65536)).bind fun x10 => some (x10.1,x10.2.1,x10.2.2) else (aH1 a id).bind fun x11 => (cut x11 (min offset (length x11 : Int)) (length x11 : Int)).bind fun x12 => (cut x12 0 (min (min count 65536) (length x12 : Int))).bind fun x13 => some (x1,x13,0)
def as4 (mode : Int) (bit : Int) : Option Int :=
  (if (decide (0 ≤ mode)) then (cE8 .i64 mode bit).bind fun x2 => some (decide ((tmod x2 2) = 1)) else some false).bind fun t3 => if t3 then some (wrap .i64 (mode - bit)) else some mode
def aY2 (a : aa2) (user : Str) (id : Int) (mode : Int) : Option Int :=
  (as4 mode 16).bind fun x1 => (as4 x1 64).bind fun x2 => (an7 a id).bind fun x3 => if (!x3) then some 8 else if ((decide (x2 < 0)) || (decide (3 < x2))) then some 12 else if ((decide (id = 1)) && (!decide (mode = 0))) then some 10 else if (decide (id = 1)) then some 0 else (if (decide (id = 3)) then (as4 mode 64).bind fun x13 => some (!decide (x13 = 0)) else some false).bind fun t14 => if t14 then some 11 else if ((!decide (id = 3)) && ((!decide (user = a.Oz)) || (decide (x2 = 3)))) then some 11 else if ((decide (id = 4)) && ((decide (32 ≤ (length a.Cz : Int))) || (decide (1048560 ≤ a.Xz)))) then some 22 else some 0
def au3 (a : aa2) (user : Str) (id : Int) (mode : Int) : Option (aa2 × Int × Int) :=
  (ag2 a).bind fun x1 => (aY2 a user id mode).bind fun x2 => if (!decide (x2 = 0)) then some (x1,0,x2) else if (!decide (id = 4)) then some (x1,id,0) else (aE5 128 x1.Cz [(aa3.mk x1.Xz [] 0 0 0 ([] : List aa1) [] [] [] 0)]).bind fun x5 => some ({x1 with Xz := wrap .i64 (x1.Xz + 1),Cz := x5},(wrap .i64 (16 + a.Xz)),0)
def ar7 (s_ : Str) : Option Int :=
  none
def am5 (s_ : Str) : Option (Int × Int) :=
  if (decide ((length s_ : Int) < 1)) then some (65533,0) else (ah4 s_ 0).bind fun c2 => none
def aq6 (s_ : Str) : Option (Int × Int) :=
  (if (!decide (s_ = [])) then (ah4 s_ 0).bind fun c2 => some (decide ((c2.toNat : Int) < 128)) else some false).bind fun t3 => if t3 then (ah4 s_ 0).bind fun c5 => some ((wrap .i32 (c5.toNat : Int)),1) else (am5 s_).bind fun x6 => some (x6.1,x6.2)
def aP6 (p3 : Int) (s__1 : Str) (a : (List Str)) : Option (List Str) :=
  if (decide (0 < p3)) then (ae2 a (wrap .i64 (p3 - 1))).bind fun x20 => some (set a (Int.toNat (wrap .i64 (p3 - 1))) s__1) else some a
def aP7 (p3 : Int) (s__1 : Str) (i : Int) (a : (List Str)) : Option (Step (Str × Int × (List Str)) (List Str)) :=
  if (decide (i < (wrap .i64 (p3 - 1)))) then (aq6 s__1).bind fun x15 => (cut s__1 0 x15.2).bind fun x16 => (ae2 a i).bind fun x17 => (cut s__1 x15.2 (length s__1 : Int)).bind fun x18 => some (.cont (x18,(wrap .i64 (i + 1)),(set a (Int.toNat i) x16))) else (aP6 p3 s__1 a).map .done
def aD5 (s_ : Str) (p3 : Int) : Option (List Str) :=
  (mkC 16 ([] : Str) p3 p3).bind fun x4 => ab1 (fun s => aP7 p3 s.1 s.2.1 s.2.2) (s_,0,x4)
def a35 (s_ : Str) (n : Int) : Option (List Str) :=
  (ar7 s_).bind fun x1 => if ((decide (n < 0)) || (decide (x1 < n))) then aD5 s_ x1 else aD5 s_ n
def strings_Count (a0 : Str) (a1 : Str) : Option Int := ci2 a0 a1
def as5 (p8 : Str) (p9 : Int) (p10 : (List Str)) : Option (List Str) :=
  (ae2 p10 p9).bind fun x11 => (cut (set p10 (Int.toNat p9) p8) 0 (wrap .i64 (p9 + 1))).bind fun x12 => some x12
def ak3 (s_ : Str) (sep : Str) (sepSave : Int) (p5 : Int) (s__2 : Str) (i_1 : Int) (a_1 : (List Str)) : Option (Step (Str × Int × (List Str)) (List Str)) :=
  if (decide (i_1 < (wrap .i64 ((min p5 (wrap .i64 ((length s_ : Int) + 1))) - 1)))) then (strings_Index s__2 sep).bind fun x24 => if (decide (x24 < 0)) then (as5 s__2 i_1 a_1).map .done else (cut s__2 0 (wrap .i64 (x24 + sepSave))).bind fun x26 => (ae2 a_1 i_1).bind fun x27 => (cut s__2 (wrap .i64 (x24 + (length sep : Int))) (length s__2 : Int)).bind fun x28 => some (.cont (x28,(wrap .i64 (i_1 + 1)),(set a_1 (Int.toNat i_1) x26))) else (as5 s__2 i_1 a_1).map .done
def as6 (s_ : Str) (sep : Str) (sepSave : Int) (p5 : Int) : Option (List Str) :=
  (mkC 16 ([] : Str) (min p5 (wrap .i64 ((length s_ : Int) + 1))) (min p5 (wrap .i64 ((length s_ : Int) + 1)))).bind fun x6 => ab1 (fun s => ak3 s_ sep sepSave p5 s.1 s.2.1 s.2.2) (s_,0,x6)
def aA4 (s_ : Str) (sep : Str) (sepSave : Int) (n : Int) : Option (List Str) :=
  if (decide (n = 0)) then some ([] : List Str) else if (decide (sep = [])) then (a35 s_ n).bind fun x3 => some x3 else if (decide (n < 0)) then (strings_Count s_ sep).bind fun x30 => as6 s_ sep sepSave (wrap .i64 (x30 + 1)) else as6 s_ sep sepSave n
def aL9 (s_ : Str) (sep : Str) : Option (List Str) :=
  (aA4 s_ sep 0 (-1)).bind fun x1 => some x1
def aj8 (a : aa2) (data : Str) (x2 : (List Str)) (v9 : Int) (v10 : aa2) : Option (Step (Int × aa2) (aa2 × Int × Int)) :=
  if (decide (v9 < (length x2 : Int))) then (ae2 x2 v9).bind fun x13 => if (decide (x13 = [])) then some (.cont ((wrap .i64 (v9 + 1)),v10)) else (ah5 v10 x13).bind fun x15 => if (!decide (x15.2 = 0)) then (ag2 a).bind fun x17 => some (.done (x17,0,x15.2)) else some (.cont ((wrap .i64 (v9 + 1)),x15.1)) else some (.done (v10,(length data : Int),0))
def aH2 (a : aa2) (data : Str) : Option (aa2 × Int × Int) :=
  (ag2 a).bind fun x1 => (aL9 data [10]).bind fun x2 => ab1 (fun s => aj8 a data x2 s.1 s.2) (0,x1)
def stringslite_CutPrefix (s_ : Str) (prefix_ : Str) : Option (Str × Bool) :=
  (stringslite_HasPrefix s_ prefix_).bind fun x1 => if (!x1) then some (s_,false) else (cut s_ (length prefix_ : Int) (length s_ : Int)).bind fun x3 => some (x3,true)
def strings_CutPrefix (s_ : Str) (prefix_ : Str) : Option (Str × Bool) :=
  (stringslite_CutPrefix s_ prefix_).bind fun x1 => some (x1.1,x1.2)
def a78 (l : (List aa1)) : Option (Int × Bool) :=
  (aw6 l [114,111,108,101]).bind fun x1 => if (decide (x1.1 = [99,108,105,101,110,116])) then some (1,true) else if (decide (x1.1 = [115,101,114,118,101,114])) then some (2,true) else some (0,false)
def aH3 (a : aa1) (a1 : Str) : Option Bool :=
  some (decide (a.Mz = a1))
def ac7 (s_ : (List aa1)) (f : Str) (v5 : Int) : Option (Step Int Int) :=
  if (decide (v5 < (length s_ : Int))) then (ae2 s_ v5).bind fun x8 => (aH3 x8 f).bind fun x9 => if x9 then some (.done v5) else some (.cont (wrap .i64 (v5 + 1))) else some (.done (-1))
def ae1 (s_ : (List aa1)) (f : Str) : Option Int :=
  ab1 (fun s => ac7 s_ f s) 0
def ae8 (i : Int) (s__1 : (List aa1)) : Option (List aa1) :=
  (cut s__1 0 i).bind fun x17 => some x17
def ab8 (del : Str) (i : Int) (j : Int) (s__1 : (List aa1)) : Option (Step (Int × Int × (List aa1)) (List aa1)) :=
  if (decide (j < (length s__1 : Int))) then (ae2 s__1 j).bind fun x13 => (aH3 x13 del).bind fun x14 => if (!x14) then (ae2 s__1 i).bind fun x16 => some (.cont ((wrap .i64 (i + 1)),(wrap .i64 (j + 1)),(set s__1 (Int.toNat i) x13))) else some (.cont (i,(wrap .i64 (j + 1)),s__1)) else (ae8 i s__1).map .done
def ag1 (s_ : (List aa1)) (del : Str) : Option (List aa1) :=
  (ae1 s_ del).bind fun x1 => if (decide (x1 = (-1))) then some s_ else ab1 (fun s => ab8 del s.1 s.2.1 s.2.2) (x1,(wrap .i64 (x1 + 1)),s_)
def aI7 (l : (List aa1)) (name : Str) : Option (List aa1) :=
  (aa5 l).bind fun x1 => (ag1 x1 name).bind fun x2 => some x2
def aI8 (a : aa2) (pattern : (List aa1)) (v6 : Int) : Option (Step Int ((List aa1) × Bool)) :=
  if (decide (v6 < (length a.Kz : Int))) then (ae2 a.Kz v6).bind fun x9 => (aB3 x9 pattern).bind fun x10 => if x10 then (aa5 x9).bind fun x12 => some (.done (x12,true)) else some (.cont (wrap .i64 (v6 + 1))) else some (.done (([] : List aa1),false))
def aU8 (a : aa2) (pattern : (List aa1)) : Option ((List aa1) × Bool) :=
  ab1 (fun s => aI8 a pattern s) 0
def bw6 (base : Int) : Option Bool :=
  some ((decide (base = 8)) || ((decide (base = 10)) || (decide (base = 16))))
def aG0 (a0 : Int) (a1 : Int) : Option Str := a69 a0 a1
def bg5 (n : Int) (base : Int) : Option Str :=
  (bw6 base).bind fun x1 => if (!x1) then some [] else (aG0 n base).bind fun x3 => some x3
def ag3 (s_ : (List Str)) (v : Str) (v4 : Int) : Option (Step Int Int) :=
  if (decide (v4 < (length s_ : Int))) then (ae2 s_ v4).bind fun x7 => if (decide (v = x7)) then some (.done v4) else some (.cont (wrap .i64 (v4 + 1))) else some (.done (-1))
def an2 (s_ : (List Str)) (v : Str) : Option Int :=
  ab1 (fun s => ag3 s_ v s) 0
def ag4 (s_ : (List Str)) (v : Str) : Option Bool :=
  (an2 s_ v).bind fun x1 => some (decide (0 ≤ x1))
def aN0 (l : (List aa1)) : Option Bool :=
  (aw6 l [117,115,101,114]).bind fun x1 => (aw6 l [33,115,101,99,114,101,116]).bind fun x2 => some (x1.2 && (x2.2 && ((decide (1 ≤ (length x1.1 : Int))) && ((decide ((length x1.1 : Int) ≤ 32)) && ((decide (1 ≤ (length x2.1 : Int))) && (decide ((length x2.1 : Int) ≤ 64)))))))
def a79 (proto : Str) (role : Int) (key : (List aa1)) (aR5 : Str) : Option (aa3 × Int) :=
  (as3).bind fun x1 => (ag4 x1 proto).bind fun x2 => if (!x2) then some ((aa3.mk 0 [] 0 0 0 ([] : List aa1) [] [] [] 0),53) else if (bif (!decide (role = 1)) then ((!decide (role = 2)) || (!decide ((length aR5 : Int) = 32))) else (!decide ((length aR5 : Int) = 32))) then some ((aa3.mk 0 [] 0 0 0 ([] : List aa1) [] [] [] 0),1) else (aF6 key).bind fun x8 => if (!decide (x8 = 0)) then some ((aa3.mk 0 [] 0 0 0 ([] : List aa1) [] [] [] 0),x8) else (aN0 key).bind fun x10 => if (!x10) then some ((aa3.mk 0 [] 0 0 0 ([] : List aa1) [] [] [] 0),52) else (an9 (aa3.mk 0 proto role 0 0 key aR5 [] [] 0)).bind fun x12 => some (x12,0)
def aI9 (a : aa2) (i : Int) (data : Str) : Option (aa2 × Int × Int) :=
  (ag2 a).bind fun x1 => (strings_CutPrefix data [115,116,97,114,116,32]).bind fun x2 => if (!x2.2) then some (x1,0,53) else (aF5 x2.1).bind fun x4 => if (!decide (x4.2.2 = 0)) then some (x1,0,x4.2.2) else (aw6 x4.1 [112,114,111,116,111]).bind fun x6 => (a78 x4.1).bind fun x7 => (aI7 x4.1 [112,114,111,116,111]).bind fun x8 => (aI7 x8 [114,111,108,101]).bind fun x9 => (aU8 a x9).bind fun x10 => if (!x6.2) then some (x1,0,53) else if (!x7.2) then some (x1,0,1) else if (!x10.2) then some (x1,0,52) else if (decide (9007199254740991 ≤ a.Nz)) then some (x1,0,22) else (bg5 a.Nz 10).bind fun x15 => (bg3 a.Sz x15).bind fun x16 => (a79 x6.1 x7.1 x10.1 x16).bind fun x17 => if (!decide (x17.2 = 0)) then some (x1,0,x17.2) else (ae2 a.Cz i).bind fun x19 => (ae2 x1.Cz i).bind fun x20 => some ({x1 with Cz := set x1.Cz (Int.toNat i) {x17.1 with Id := x19.Id},Nz := wrap .i64 (x1.Nz + 1)},(length data : Int),0)
def aw9 (c : aa3) (n : Int) (p2 : Bool) : Option Int :=
  if p2 then some 0 else if ((decide (c.Pz = [109,117,116,117,97,108])) && (decide (n = 0))) then (ad7 (aa4.mk c) [117,115,101,114]).bind fun x7 => (ar5 x7).bind fun x8 => some (length x8 : Int) else some (-1)
def aB6 (c : aa3) (n : Int) : Option Int :=
  if ((decide (c.Pz = [99,104,97,108])) && (decide (n = 0))) then aw9 c n ((decide (c.Pz = [99,104,97,108])) && (decide (n = 0))) else aw9 c n ((decide (c.Pz = [109,117,116,117,97,108])) && (decide (n = 1)))
def as7 (c : aa3) (s_ : Str) (p4 : aa3) : Option (aa3 × Int) :=
  (aB6 c c.Step).bind fun x5 => (if (decide (0 ≤ x5)) then if (!decide ((length p4.Ez : Int) = 32)) then some true else if (decide ((aa4.mk p4).Conv.Pz = [99,104,97,108])) then (ak8 (aa4.mk p4) c.Step).bind fun x9 => some (!decide (x9 = s_)) else if (decide ((aa4.mk p4).Conv.Pz = [109,117,116,117,97,108])) then (ai6 (aa4.mk p4) c.Step).bind fun x11 => some (!decide (x11 = s_)) else (aj3 (aa4.mk p4) c.Step).bind fun x12 => some (!decide (x12 = s_)) else if (decide ((aa4.mk p4).Conv.Pz = [99,104,97,108])) then (ak8 (aa4.mk p4) c.Step).bind fun x14 => some (!decide (x14 = s_)) else if (decide ((aa4.mk p4).Conv.Pz = [109,117,116,117,97,108])) then (ai6 (aa4.mk p4) c.Step).bind fun x16 => some (!decide (x16 = s_)) else (aj3 (aa4.mk p4) c.Step).bind fun x17 => some (!decide (x17 = s_))).bind fun t18 => if t18 then (ap1 c).bind fun x20 => some ({x20 with Hz := 4,Err := 28},28) else (an9 {p4 with Step := wrap .i64 (p4.Step + 1)}).bind fun x21 => some (x21,0)
def a80 (c : aa3) (s_ : Str) : Option (aa3 × Int) :=
  if (!decide (c.Hz = 2)) then (ap1 c).bind fun x2 => some (x2,53) else (aB6 c c.Step).bind fun x22 => if ((decide (0 ≤ x22)) && (decide ((wrap .i64 (x22 + 32)) ≤ (length s_ : Int)))) then (cut s_ x22 (wrap .i64 (x22 + 32))).bind fun x26 => as7 c s_ {c with Ez := x26} else as7 c s_ c
def aH4 (data : Str) (x1 : aa2) (x3 : (aa3 × Int)) (p5 : (List aa3)) : Option (aa2 × Int × Int) :=
  if (!decide (x3.2 = 0)) then some ({x1 with Cz := p5},0,x3.2) else some ({x1 with Cz := p5},(length data : Int),0)
def aG1 (a : aa2) (i : Int) (data : Str) : Option (aa2 × Int × Int) :=
  (ag2 a).bind fun x1 => (ae2 a.Cz i).bind fun x2 => (a80 x2 data).bind fun x3 => if ((decide (x3.2 = 0)) || (decide (x3.2 = 28))) then (ae2 x1.Cz i).bind fun x10 => aH4 data x1 x3 (set x1.Cz (Int.toNat i) x3.1) else aH4 data x1 x3 x1.Cz
def ap2 (a : aa2) (id : Int) (data : Str) : Option (aa2 × Int × Int) :=
  (aB4 a id).bind fun x1 => (an7 a id).bind fun x2 => if (!x2) then (ag2 a).bind fun x4 => some (x4,0,8) else if (decide (id = 1)) then (ag2 a).bind fun x6 => some (x6,0,10) else if ((decide (id = 3)) || (decide (id = 4))) then (ag2 a).bind fun x10 => some (x10,0,11) else if (decide (id = 2)) then (aH2 a data).bind fun x12 => some (x12.1,x12.2.1,x12.2.2) else (ae2 a.Cz x1).bind fun x13 => (aw8 x13).bind fun x14 => if x14 then (aI9 a x1 data).bind fun x16 => some (x16.1,x16.2.1,x16.2.2) else (aG1 a x1 data).bind fun x17 => some (x17.1,x17.2.1,x17.2.2)
def ah0 (s : (List aa3)) (i j : Int) : Option (List aa3) := delL s i j
def aG2 (a : aa2) (id : Int) (mode : Int) : Option aa2 :=
  (ag2 a).bind fun x1 => (aB4 a id).bind fun x2 => if (decide (0 ≤ x2)) then (ah0 x1.Cz x2 (wrap .i64 (x2 + 1))).bind fun x4 => some {x1 with Cz := x4} else some x1
def a36 (o : (List aa1)) (a1 : (List aa1)) : Option Bool :=
  (aP1 o a1).bind fun x1 => some x1
def ad5 (s_ : (List (List aa1))) (f : (List aa1)) (v5 : Int) : Option (Step Int Int) :=
  if (decide (v5 < (length s_ : Int))) then (ae2 s_ v5).bind fun x8 => (a36 x8 f).bind fun x9 => if x9 then some (.done v5) else some (.cont (wrap .i64 (v5 + 1))) else some (.done (-1))
def ae9 (s_ : (List (List aa1))) (f : (List aa1)) : Option Int :=
  ab1 (fun s => ad5 s_ f s) 0
def ad6 (s_ : (List (List aa1))) (f : (List aa1)) : Option Bool :=
  (ae9 s_ f).bind fun x1 => some (decide (0 ≤ x1))
def aH5 (a : aa2) (v9 : Int) : Option (Step Int Bool) :=
  if (decide (v9 < (length a.Kz : Int))) then (ae2 a.Kz v9).bind fun x12 => (a32 x12).bind fun x13 => (if (!x13) then some true else (cut a.Kz 0 v9).bind fun x15 => (ad6 x15 x12).bind fun x16 => some x16).bind fun t17 => if t17 then some (.done false) else some (.cont (wrap .i64 (v9 + 1))) else some (.done (decide ((length a.Kz : Int) ≤ 64)))
def aU9 (a : aa2) : Option Bool :=
  ab1 (fun s => aH5 a s) 0
def aD6 (c : aa3) (v7 : Int) : Option (Step Int Bool) :=
  if (decide (v7 < c.Step)) then (aB6 c v7).bind fun x10 => (if (decide (0 ≤ x10)) then (aU6 c.Pz c.Rz v7).bind fun x12 => some (!x12) else some false).bind fun t13 => if t13 then some (.done true) else some (.cont (wrap .i64 (v7 + 1))) else some (.done false)
def aV0 (c : aa3) : Option Bool :=
  ab1 (fun s => aD6 c s) 0
def aN1 (c : aa3) : Option Bool :=
  (if (decide (c.Id < 0)) then some true else if (decide (1048575 < c.Id)) then some true else (as3).bind fun x3 => (ag4 x3 c.Pz).bind fun x4 => if (!x4) then some true else if (!decide (c.Rz = 1)) then some (!decide (c.Rz = 2)) else some false).bind fun t7 => if t7 then some false else (aF6 c.Key).bind fun x9 => (if (!decide (x9 = 0)) then some true else (aN0 c.Key).bind fun x11 => if (!x11) then some true else if (!decide ((length c.Own : Int) = 32)) then some true else if (decide (c.Step < 0)) then some true else (aP5 c.Pz).bind fun x15 => some (decide (x15 < c.Step))).bind fun t16 => if t16 then some false else (an9 c).bind fun x18 => (if (!((decide (c.Hz = 4)) && (decide (x18.Hz = 2)))) then if (!decide (c.Hz = x18.Hz)) then some true else if (!decide (c.Uz = x18.Uz)) then some true else if (!decide (((decide (c.Hz = 4)) && (decide (x18.Hz = 2))) = (decide (c.Err = 28)))) then some true else some (!decide (c.Err = 0)) else if (!decide (c.Uz = x18.Uz)) then some true else if (!decide (((decide (c.Hz = 4)) && (decide (x18.Hz = 2))) = (decide (c.Err = 28)))) then some true else some false).bind fun t27 => if t27 then some false else (aV0 c).bind fun x29 => if x29 then some (decide ((length c.Ez : Int) = 32)) else some (decide (c.Ez = []))
def aD7 (a : aa2) (v23 : Int) : Option (Step Int Bool) :=
  if (decide (v23 < (length a.Cz : Int))) then (ae2 a.Cz v23).bind fun x26 => (if (decide (x26.Id < 1)) then some true else if (decide (a.Xz ≤ x26.Id)) then some true else if (decide (0 < v23)) then (ae2 a.Cz (wrap .i64 (v23 - 1))).bind fun x30 => if (decide (x26.Id ≤ x30.Id)) then some true else (aw8 x26).bind fun x32 => if (!x32) then (aN1 x26).bind fun x34 => some (!x34) else some false else (aw8 x26).bind fun x35 => if (!x35) then (aN1 x26).bind fun x37 => some (!x37) else some false).bind fun t38 => if t38 then some (.done false) else some (.cont (wrap .i64 (v23 + 1))) else some (.done true)
def ax0 (a : aa2) : Option Bool :=
  if ((decide (a.Oz = [])) || ((decide (32 < (length a.Oz : Int))) || ((decide (1024 < (length a.Sz : Int))) || ((decide (a.Xz < 1)) || ((decide (1048560 < a.Xz)) || ((decide (a.Nz < 0)) || (decide (9007199254740991 < a.Nz)))))))) then some false else (if (decide (32 < (length a.Cz : Int))) then some true else if (decide (64 < (length a.Kz : Int))) then some true else (aU9 a).bind fun x11 => some (!x11)).bind fun t12 => if t12 then some false else ab1 (fun s => aD7 a s) 0
def af2 : Option Bool :=
  (aw5 [97,100,109] [115]).bind fun x1 => (ah5 x1.1 [107,101,121,32,117,115,101,114,61,97,110,110,32,33,115,101,99,114,101,116,61,97,32,100,111,109,61,120]).bind fun x2 => (ah5 x2.1 [107,101,121,32,117,115,101,114,61,97,110,110]).bind fun x3 => (ah5 x2.1 [107,101,121,115]).bind fun x4 => (ai5 x2.1 2 0 100).bind fun x5 => (au3 x5.1 [97,100,109] 4 2).bind fun x6 => (au3 x6.1 [98,111,98] 4 2).bind fun x7 => (ai5 x6.1 x6.2.1 0 100).bind fun x8 => (ap2 x6.1 x6.2.1 [115,116,97,114,116,32,112,114,111,116,111,61,112,108,97,105,110,32,114,111,108,101,61,99,108,105,101,110,116,32,117,115,101,114,61,97,110,110]).bind fun x9 => (ai5 x9.1 x6.2.1 0 100).bind fun x10 => (ah5 x10.1 [100,101,108,107,101,121,32,117,115,101,114,61,97,110,110]).bind fun x11 => (aG2 x11.1 17 0).bind fun x12 => (if (decide (x1.2 = 0)) then if (decide (x2.2 = 0)) then if (decide (x3.2 = 52)) then if (decide (x4.2 = 54)) then if (decide (x5.2.1 = [107,101,121,32,117,115,101,114,61,97,110,110,32,100,111,109,61,120,10])) then if (decide (x5.2.2 = 0)) then if (decide (x6.2.1 = 17)) then if (decide (x6.2.2 = 0)) then if (decide (x7.2.2 = 11)) then if (decide (x8.2.2 = 53)) then if (decide (x9.2.1 = 38)) then if (decide (x9.2.2 = 0)) then if (decide (x9.1.Nz = 1)) then if (decide (x10.2.1 = [3,0,97,110,110,1,0,97])) then if (decide (x10.2.2 = 0)) then if (decide (x11.2 = 0)) then if (decide ((length x11.1.Kz : Int) = 0)) then if (decide ((length x12.Cz : Int) = 0)) then (ax0 x12).bind fun x31 => some x31 else some false else some false else some false else some false else some false else some false else some false else some false else some false else some false else some false else some false else some false else some false else some false else some false else some false else some false).bind fun t32 => some t32
def aG3 (line : Str) (bj1 : Str) : Option (Str × Bool) :=
  (if (decide ((length line : Int) < (wrap .i64 ((length bj1 : Int) + 1)))) then some true else (cut line 0 (wrap .i64 ((length bj1 : Int) + 1))).bind fun x2 => (aj2 bj1 [32]).bind fun x3 => some (!decide (x2 = x3))).bind fun t4 => if t4 then some ([],false) else (cut line (wrap .i64 ((length bj1 : Int) + 1)) (length line : Int)).bind fun x6 => some (x6,true)
def aA8 (c : Int) : Option Bool :=
  some ((decide (c = 32)) || (decide (c = 9)))
def aN2 (s_ : Str) (at_ : Int) : Option Bool :=
  (if (decide (at_ = (length s_ : Int))) then some true else (ah4 s_ at_).bind fun c2 => (aA8 (c2.toNat : Int)).bind fun x3 => some x3).bind fun t4 => some t4
def ak1 (s_ : Str) (at__1 : Int) (out : Str) : Option (Step (Int × Str) (Str × Int × Int)) :=
  if (decide (at__1 < (length s_ : Int))) then (ah4 s_ at__1).bind fun c15 => if (!decide ((c15.toNat : Int) = 39)) then (cut s_ at__1 (wrap .i64 (at__1 + 1))).bind fun x17 => (aj2 out x17).bind fun x18 => some (.cont ((wrap .i64 (at__1 + 1)),x18)) else (if (decide ((wrap .i64 (at__1 + 1)) = (length s_ : Int))) then some true else (ah4 s_ (wrap .i64 (at__1 + 1))).bind fun c20 => some (!decide ((c20.toNat : Int) = 39))).bind fun t21 => if t21 then some (.done (out,(wrap .i64 (at__1 + 1)),0)) else (aj2 out [39]).bind fun x23 => some (.cont ((wrap .i64 (at__1 + 2)),x23)) else some (.done ([],at__1,48))
def aS2 (s_ : Str) (at_ : Int) : Option (Str × Int × Int) :=
  ab1 (fun s => ak1 s_ s.1 s.2) (at_,[])
def aH6 (x25 : Str) (x40 : (Str × Int × Int)) (p42 : Int) : Option (aa1 × Int × Int) :=
  some ((aa1.mk x25 x40.1 false),x40.2.1,p42)
def aT4 (s_ : Str) (at__1 : Int) (x25 : Str) (at__2 : Int) : Option (aa1 × Int × Int) :=
  (cut s_ (wrap .i64 (at__1 + 1)) at__2).bind fun x57 => some ((aa1.mk x25 x57 false),at__2,0)
def au4 (s_ : Str) (at__1 : Int) (x25 : Str) (at__2 : Int) : Option (Step Int (aa1 × Int × Int)) :=
  (aN2 s_ at__2).bind fun x53 => if (!x53) then (ah4 s_ at__2).bind fun c55 => if (decide ((c55.toNat : Int) = 39)) then some (.done ((aa1.mk x25 [] false),at__2,2)) else some (.cont (wrap .i64 (at__2 + 1))) else (aT4 s_ at__1 x25 at__2).map .done
def aH7 (s_ : Str) (at_ : Int) (at__1 : Int) : Option (aa1 × Int × Int) :=
  (cut s_ at_ at__1).bind fun x25 => (if (decide (at__1 < (length s_ : Int))) then (ah4 s_ at__1).bind fun c27 => if (decide ((c27.toNat : Int) = 63)) then (aN2 s_ (wrap .i64 (at__1 + 1))).bind fun x29 => some x29 else some false else some false).bind fun t30 => if t30 then some ((aa1.mk x25 [] true),(wrap .i64 (at__1 + 1)),0) else (if (decide (at__1 = (length s_ : Int))) then some true else (ah4 s_ at__1).bind fun c33 => some (!decide ((c33.toNat : Int) = 61))).bind fun t34 => if t34 then some ((aa1.mk x25 [] false),at__1,2) else (if (decide ((wrap .i64 (at__1 + 1)) < (length s_ : Int))) then (ah4 s_ (wrap .i64 (at__1 + 1))).bind fun c37 => some (decide ((c37.toNat : Int) = 39)) else some false).bind fun t38 => if t38 then (aS2 s_ (wrap .i64 ((wrap .i64 (at__1 + 1)) + 1))).bind fun x40 => (if (decide (x40.2.2 = 0)) then (aN2 s_ x40.2.1).bind fun x44 => some (!x44) else some false).bind fun t45 => if t45 then aH6 x25 x40 2 else aH6 x25 x40 x40.2.2 else ab1 (fun s => au4 s_ at__1 x25 s) (wrap .i64 (at__1 + 1))
def au5 (s_ : Str) (at_ : Int) (at__1 : Int) : Option (Step Int (aa1 × Int × Int)) :=
  (if (decide (at__1 < (length s_ : Int))) then (ah4 s_ at__1).bind fun c15 => (aA8 (c15.toNat : Int)).bind fun x16 => if (!x16) then (ah4 s_ at__1).bind fun c18 => if (!decide ((c18.toNat : Int) = 61)) then (ah4 s_ at__1).bind fun c20 => if (!decide ((c20.toNat : Int) = 63)) then (ah4 s_ at__1).bind fun c22 => some (!decide ((c22.toNat : Int) = 39)) else some false else some false else some false else some false).bind fun t23 => if t23 then some (.cont (wrap .i64 (at__1 + 1))) else (aH7 s_ at_ at__1).map .done
def a81 (s_ : Str) (at_ : Int) : Option (aa1 × Int × Int) :=
  ab1 (fun s => au5 s_ at_ s) at_
def aq7 (out : (List aa1)) (at__1 : Int) (x38 : (aa1 × Int × Int)) (p40 : Int) : Option (Step (Int × (List aa1)) ((List aa1) × Int × Int)) :=
  if (!decide (p40 = 0)) then some (.done (([] : List aa1),at__1,p40)) else (aE5 40 out [x38.1]).bind fun x42 => some (.cont (x38.2.1,x42))
def am6 (s_ : Str) (out : (List aa1)) (at__1 : Int) : Option (Step (Int × (List aa1)) ((List aa1) × Int × Int)) :=
  if (decide (at__1 = (length s_ : Int))) then some (.done (out,0,0)) else (a81 s_ at__1).bind fun x38 => if (decide (x38.2.2 = 0)) then (aU4 out x38.1).bind fun x44 => aq7 out at__1 x38 x44 else aq7 out at__1 x38 x38.2.2
def aq8 (s_ : Str) (out : (List aa1)) (at__1 : Int) : Option (Step Int (Step (Int × (List aa1)) ((List aa1) × Int × Int))) :=
  (if (decide (at__1 < (length s_ : Int))) then (ah4 s_ at__1).bind fun c33 => (aA8 (c33.toNat : Int)).bind fun x34 => some x34 else some false).bind fun t35 => if t35 then some (.cont (wrap .i64 (at__1 + 1))) else (am6 s_ out at__1).map .done
def ax1 (s_ : Str) (at_ : Int) (out : (List aa1)) : Option (Step (Int × (List aa1)) ((List aa1) × Int × Int)) :=
  ab1 (fun s => aq8 s_ out s) at_
def aA9 (s_ : Str) : Option ((List aa1) × Int × Int) :=
  ab1 (fun s => ax1 s_ s.1 s.2) (0,([] : List aa1))
def aq9 (l : (List aa1)) (pattern : (List aa1)) (i : Int) : Option (Step Int Bool) :=
  if (decide (i < (length pattern : Int))) then (ae2 pattern i).bind fun x13 => (aB2 l x13.Mz).bind fun x14 => (if (!x14.2) then some true else (ae2 pattern i).bind fun x16 => if (!x16.Qz) then (ae2 pattern i).bind fun x18 => some (!decide (x14.1 = x18.Value)) else some false).bind fun t19 => if t19 then some (.done false) else some (.cont (wrap .i64 (i + 1))) else some (.done true)
def aD8 (l : (List aa1)) (pattern : (List aa1)) : Option Bool :=
  ab1 (fun s => aq9 l pattern s) 0
def aG4 (a : aa2) (v25 : (List (List aa1))) : Option (aa2 × Int) :=
  if (decide ((length v25 : Int) = (length a.Kz : Int))) then some (a,52) else some ({a with Kz := v25},0)
def am0 (a : aa2) (x16 : ((List aa1) × Int × Int)) (i : Int) (v25 : (List (List aa1))) : Option (Step (Int × (List (List aa1))) (aa2 × Int)) :=
  if (decide (i < (length a.Kz : Int))) then (ae2 a.Kz i).bind fun x28 => (aD8 x28 x16.1).bind fun x29 => if (!x29) then (ae2 a.Kz i).bind fun x31 => (aE5 24 v25 [x31]).bind fun x32 => some (.cont ((wrap .i64 (i + 1)),x32)) else some (.cont ((wrap .i64 (i + 1)),v25)) else (aG4 a v25).map .done
def as8 (a : aa2) (line : Str) : Option (aa2 × Int) :=
  (aG3 line [107,101,121]).bind fun x1 => if x1.2 then (aA9 x1.1).bind fun x3 => if (!decide (x3.2.2 = 0)) then some (a,x3.2.2) else (aF2 x3.1).bind fun x5 => if (!x5) then some (a,52) else (aE5 24 ([] : List (List aa1)) a.Kz).bind fun x7 => (ar4 x3.1).bind fun x8 => (aF3 a.Kz x8).bind fun x9 => if (decide (0 ≤ x9)) then (ae2 x7 x9).bind fun x11 => some ({a with Kz := set x7 (Int.toNat x9) x3.1},0) else if (decide (64 ≤ (length a.Kz : Int))) then some (a,22) else (aE5 24 x7 [x3.1]).bind fun x13 => some ({a with Kz := x13},0) else (aG3 line [100,101,108,107,101,121]).bind fun x14 => if (!x14.2) then some (a,54) else (aA9 x14.1).bind fun x16 => if (!decide (x16.2.2 = 0)) then some (a,x16.2.2) else ab1 (fun s => am0 a x16 s.1 s.2) (0,([] : List (List aa1)))
def am7 (a : aa2) (b : aa2) (i_1 : Int) : Option (Step Int Bool) :=
  if (decide (i_1 < (length a.Cz : Int))) then (ae2 a.Cz i_1).bind fun x28 => (ae2 b.Cz i_1).bind fun x29 => (at9 x28 x29).bind fun x30 => if (!x30) then some (.done false) else some (.cont (wrap .i64 (i_1 + 1))) else some (.done true)
def as9 (a : aa2) (b : aa2) (i : Int) : Option (Step Int Bool) :=
  if (decide (i < (length a.Kz : Int))) then (ae2 a.Kz i).bind fun x16 => (ae2 b.Kz i).bind fun x17 => (at8 x16 x17).bind fun x18 => if (!x18) then some (.done false) else some (.cont (wrap .i64 (i + 1))) else (ab1 (fun s => am7 a b s) 0).map .done
def ag5 (a : aa2) (b : aa2) : Option Bool :=
  if ((!decide (a.Oz = b.Oz)) || ((!decide (a.Sz = b.Sz)) || ((!decide (a.Xz = b.Xz)) || ((!decide (a.Nz = b.Nz)) || ((!decide ((length a.Kz : Int) = (length b.Kz : Int))) || (!decide ((length a.Cz : Int) = (length b.Cz : Int)))))))) then some false else ab1 (fun s => as9 a b s) 0
def aM0 (a : aa2) (id : Int) (i : Int) : Option (Step Int Int) :=
  if (decide (i < (length a.Cz : Int))) then (if (decide (16 < id)) then (ae2 a.Cz i).bind fun x10 => some (decide (x10.Id = (wrap .i64 (id - 16)))) else some false).bind fun t11 => if t11 then some (.done i) else some (.cont (wrap .i64 (i + 1))) else some (.done (-1))
def aB7 (a : aa2) (id : Int) : Option Int :=
  ab1 (fun s => aM0 a id s) 0
def ao1 (a : aa2) (id : Int) : Option Bool :=
  (if (decide (1 ≤ id)) then if (decide (id ≤ 4)) then some true else (aB7 a id).bind fun x3 => some (decide (0 ≤ x3)) else (aB7 a id).bind fun x4 => some (decide (0 ≤ x4))).bind fun t5 => some t5
def a82 (a : aa2) (user : Str) (id : Int) (mode : Int) : Option (aa2 × Int × Int) :=
  (ao1 a id).bind fun x1 => if (!x1) then some (a,0,8) else if ((decide (mode < 0)) || ((decide (83 < mode)) || ((decide (3 < (tmod mode 16))) || (decide (1 < (tmod (wrap .i64 (tdiv mode 16)) 4)))))) then some (a,0,12) else if ((decide (id = 1)) && (!decide (mode = 0))) then some (a,0,10) else if (bif (decide (id = 3)) then ((!decide ((tmod mode 64) = 0)) || ((!decide (id = 1)) && ((!decide (id = 3)) && ((!decide (user = a.Oz)) || (decide ((tmod mode 16) = 3)))))) else ((!decide (id = 1)) && ((!decide (id = 3)) && ((!decide (user = a.Oz)) || (decide ((tmod mode 16) = 3)))))) then some (a,0,11) else if (!decide (id = 4)) then some (a,id,0) else if ((decide (32 ≤ (length a.Cz : Int))) || (decide (1048560 ≤ a.Xz))) then some (a,0,22) else (aE5 128 ([] : List aa3) a.Cz).bind fun x25 => (aE5 128 x25 [(aa3.mk a.Xz [] 0 0 0 ([] : List aa1) [] [] [] 0)]).bind fun x26 => some ({a with Xz := wrap .i64 (a.Xz + 1),Cz := x26},(wrap .i64 (16 + a.Xz)),0)
def aP8 (s_ : Str) (out : Str) (odd : Bool) : Option Str :=
  if odd then (aj2 [39] out).bind fun x32 => (aj2 x32 [39]).bind fun x33 => some x33 else some s_
def ax2 (s_ : Str) (out : Str) (odd : Bool) (i : Int) : Option (Step (Str × Bool × Int) Str) :=
  if (decide (i < (length s_ : Int))) then (if odd then some true else (ah4 s_ i).bind fun c20 => if (decide ((c20.toNat : Int) = 32)) then some true else (ah4 s_ i).bind fun c22 => if (decide ((c22.toNat : Int) = 9)) then some true else (ah4 s_ i).bind fun c24 => some (decide ((c24.toNat : Int) = 39))).bind fun t25 => (cut s_ i (wrap .i64 (i + 1))).bind fun x26 => (aj2 out x26).bind fun x27 => (ah4 s_ i).bind fun c28 => if (decide ((c28.toNat : Int) = 39)) then (aj2 x27 [39]).bind fun x30 => some (.cont (x30,t25,(wrap .i64 (i + 1)))) else some (.cont (x27,t25,(wrap .i64 (i + 1)))) else (aP8 s_ out odd).map .done
def aY3 (s_ : Str) : Option Str :=
  ab1 (fun s => ax2 s_ s.1 s.2.1 s.2.2) ([],(decide (s_ = [])),0)
def ax3 (l : (List aa1)) (i : Int) (p20 : Str) : Option (Step (Str × Int) (Str × Int)) :=
  (ae2 l i).bind fun x21 => if x21.Qz then (ae2 l i).bind fun x23 => (aj2 p20 x23.Mz).bind fun x24 => (aj2 x24 [63]).bind fun x25 => some (.cont (x25,(wrap .i64 (i + 1)))) else (ae2 l i).bind fun x26 => (aj2 p20 x26.Mz).bind fun x27 => (aj2 x27 [61]).bind fun x28 => (ae2 l i).bind fun x29 => (aY3 x29.Value).bind fun x30 => (aj2 x28 x30).bind fun x31 => some (.cont (x31,(wrap .i64 (i + 1))))
def ax4 (l : (List aa1)) (s_ : Str) (i : Int) : Option (Step (Str × Int) (Str × Int)) :=
  if (decide (i < (length l : Int))) then if (decide (0 < i)) then (aj2 s_ [32]).bind fun x33 => ax3 l i x33 else ax3 l i s_ else some (.done (s_,0))
def aY4 (l : (List aa1)) : Option (Str × Int) :=
  (aF1 l).bind fun x1 => if (!decide (x1 = 0)) then some ([],x1) else ab1 (fun s => ax4 l s.1 s.2) ([],0)
def a38 : Option (List Str) :=
  some [[99,104,97,108],[109,117,116,117,97,108],[112,108,97,105,110]]
def aj9 (x4 : (List Str)) (s__1 : Str) (i_1 : Int) : Option (Step (Str × Int) Str) :=
  if (decide (i_1 < (length x4 : Int))) then (ae2 x4 i_1).bind fun x13 => (aj2 s__1 x13).bind fun x14 => (aj2 x14 [10]).bind fun x15 => some (.cont (x15,(wrap .i64 (i_1 + 1)))) else some (.done s__1)
def am1 (id : Int) (p2 : Str) : Option Str :=
  if (decide (id = 3)) then (a38).bind fun x4 => ab1 (fun s => aj9 x4 s.1 s.2) (p2,0) else some p2
def ao2 (a : aa2) (id : Int) (s__2 : Str) (i_2 : Int) : Option (Step (Str × Int) Str) :=
  if (decide (i_2 < (length a.Kz : Int))) then (ae2 a.Kz i_2).bind fun x28 => (ar4 x28).bind fun x29 => (aY4 x29).bind fun x30 => (aj2 s__2 [107,101,121,32]).bind fun x31 => (aj2 x31 x30.1).bind fun x32 => (aj2 x32 [10]).bind fun x33 => some (.cont (x33,(wrap .i64 (i_2 + 1)))) else (am1 id s__2).map .done
def aH8 (a : aa2) (id : Int) : Option Str :=
  if (decide (id = 2)) then ab1 (fun s => ao2 a id s.1 s.2) ([],0) else am1 id []
def bc3 (width : Int) : Option Bool :=
  some ((decide (1 ≤ width)) && (decide (width ≤ 8)))
def aY5 (s_ : Str) (left : Int) : Option (Str × Int) :=
  if (!decide (left = 0)) then some ([],5) else some (s_,0)
def ao3 (width : Int) (s_ : Str) (left : Int) (i : Int) : Option (Step (Str × Int × Int) (Str × Int)) :=
  if ((decide (i < width)) && (decide (0 ≤ left))) then (aj2 s_ ([UInt8.ofNat (Int.toNat (wrap .u8 (tmod left 256)))] : Str)).bind fun x14 => some (.cont (x14,(wrap .i64 (tdiv left 256)),(wrap .i64 (i + 1)))) else (aY5 s_ left).map .done
def a39 (n : Int) (width : Int) : Option (Str × Int) :=
  (bc3 width).bind fun x1 => if (!x1) then some ([],1) else ab1 (fun s => ao3 width s.1 s.2.1 s.2.2) ([],n,0)
def aY6 (s_ : Str) : Option (Str × Int) :=
  (a39 (length s_ : Int) 2).bind fun x1 => if (!decide (x1.2 = 0)) then some ([],4) else (aj2 x1.1 s_).bind fun x3 => some (x3,0)
def aD9 (s_ : Str) : Option Str :=
  (aY6 s_).bind fun x1 => some x1.1
def aJ0 (n : Int) (x__1 : Int) (s_ : Str) (i : Int) : Option (Step (Int × Str × Int) Str) :=
  if (decide (i < n)) then (aj2 ([UInt8.ofNat (Int.toNat (wrap .u8 (tmod x__1 256)))] : Str) s_).bind fun x8 => some (.cont ((wrap .u64 (tdiv x__1 256)),x8,(wrap .i64 (i + 1)))) else some (.done s_)
def aJ1 (x_ : Int) (n : Int) : Option Str :=
  ab1 (fun s => aJ0 n s.1 s.2.1 s.2.2) (x_,[],0)
def aK4 (s_ : Str) (t_ : Str) : Option Str :=
  (aJ1 (wrap .u64 ((wrap .u64 (length s_ : Int)) * 8)) 8).bind fun x8 => (aj2 t_ x8).bind fun x9 => some x9
def ax5 (s_ : Str) (t_ : Str) : Option (Step Str Str) :=
  if (!decide ((tmod (length t_ : Int) 64) = 56)) then (aj2 t_ [0]).bind fun x7 => some (.cont x7) else (aK4 s_ t_).map .done
def aS3 (s_ : Str) : Option Str :=
  (aj2 s_ [128]).bind fun x1 => ab1 (fun s => ax5 s_ s) x1
def aP9 : Option (List Int) :=
  some [1116352408,1899447441,3049323471,3921009573,961987163,1508970993,2453635748,2870763221,3624381080,310598401,607225278,1426881987,1925078388,2162078206,2614888103,3248222580,3835390401,4022224774,264347078,604807628,770255983,1249150122,1555081692,1996064986,2554220882,2821834349,2952996808,3210313671,3336571891,3584528711,113926993,338241895,666307205,773529912,1294757372,1396182291,1695183700,1986661051,2177026350,2456956037,2730485921,2820302411,3259730800,3345764771,3516065817,3600352804,4094571909,275423344,430227734,506948616,659060556,883997877,958139571,1322822218,1537002063,1747873779,1955562222,2024104815,2227730452,2361852424,2428436474,2756734187,3204031479,3329325298]
def am2 (x_ : Int) (n : Int) : Option Int :=
  (bv0 .u32 x_ n).bind fun x1 => (cd0 .u32 x_ (wrap .i64 (32 - n))).bind fun x2 => some (wrap .u32 ((ofInt (IntKind.bits .u32) x1 ||| (ofInt (IntKind.bits .u32) x2)).toNat : Nat))
def ak0 (i_1 : Int) (w_1 : (List Int)) : Option (Step (Int × (List Int)) (List Int)) :=
  if (decide (i_1 < 64)) then (ae2 w_1 (wrap .i64 (i_1 - 15))).bind fun x36 => (ae2 w_1 (wrap .i64 (i_1 - 2))).bind fun x37 => (am2 x36 7).bind fun x38 => (am2 x36 18).bind fun x39 => (bv0 .u32 x36 3).bind fun x40 => (am2 x37 17).bind fun x41 => (am2 x37 19).bind fun x42 => (bv0 .u32 x37 10).bind fun x43 => (ae2 w_1 (wrap .i64 (i_1 - 16))).bind fun x44 => (ae2 w_1 (wrap .i64 (i_1 - 7))).bind fun x45 => (aE5 4 w_1 [(wrap .u32 ((wrap .u32 ((wrap .u32 (x44 + (wrap .u32 ((ofInt (IntKind.bits .u32) (wrap .u32 ((ofInt (IntKind.bits .u32) x38 ^^^ (ofInt (IntKind.bits .u32) x39)).toNat : Nat)) ^^^ (ofInt (IntKind.bits .u32) x40)).toNat : Nat)))) + x45)) + (wrap .u32 ((ofInt (IntKind.bits .u32) (wrap .u32 ((ofInt (IntKind.bits .u32) x41 ^^^ (ofInt (IntKind.bits .u32) x42)).toNat : Nat)) ^^^ (ofInt (IntKind.bits .u32) x43)).toNat : Nat))))]).bind fun x46 => some (.cont ((wrap .i64 (i_1 + 1)),x46)) else some (.done w_1)
def ao4 (b : Str) (i : Int) (w : (List Int)) : Option (Step (Int × (List Int)) (List Int)) :=
  if (decide (i < 16)) then (ah4 b (wrap .i64 (4 * i))).bind fun c13 => (cd0 .u32 (wrap .u32 (c13.toNat : Int)) 24).bind fun x14 => (ah4 b (wrap .i64 ((wrap .i64 (4 * i)) + 1))).bind fun c15 => (cd0 .u32 (wrap .u32 (c15.toNat : Int)) 16).bind fun x16 => (ah4 b (wrap .i64 ((wrap .i64 (4 * i)) + 2))).bind fun c17 => (cd0 .u32 (wrap .u32 (c17.toNat : Int)) 8).bind fun x18 => (ah4 b (wrap .i64 ((wrap .i64 (4 * i)) + 3))).bind fun c19 => (aE5 4 w [(wrap .u32 ((ofInt (IntKind.bits .u32) (wrap .u32 ((ofInt (IntKind.bits .u32) (wrap .u32 ((ofInt (IntKind.bits .u32) x14 ||| (ofInt (IntKind.bits .u32) x16)).toNat : Nat)) ||| (ofInt (IntKind.bits .u32) x18)).toNat : Nat)) ||| (ofInt (IntKind.bits .u32) (wrap .u32 (c19.toNat : Int)))).toNat : Nat))]).bind fun x20 => some (.cont ((wrap .i64 (i + 1)),x20)) else (ab1 (fun s => ak0 s.1 s.2) (16,w)).map .done
def aH9 (b : Str) : Option (List Int) :=
  ab1 (fun s => ao4 b s.1 s.2) (0,([] : List Int))
def aQ0 (words : (List Int)) (a : Int) (b : Int) (c : Int) (d : Int) (e : Int) (f : Int) (g : Int) (h_ : Int) : Option (List Int) :=
  (ae2 words 0).bind fun x38 => (ae2 words 1).bind fun x39 => (ae2 words 2).bind fun x40 => (ae2 words 3).bind fun x41 => (ae2 words 4).bind fun x42 => (ae2 words 5).bind fun x43 => (ae2 words 6).bind fun x44 => (ae2 words 7).bind fun x45 => some [(wrap .u32 (x38 + a)),(wrap .u32 (x39 + b)),(wrap .u32 (x40 + c)),(wrap .u32 (x41 + d)),(wrap .u32 (x42 + e)),(wrap .u32 (x43 + f)),(wrap .u32 (x44 + g)),(wrap .u32 (x45 + h_))]
def ax6 (words : (List Int)) (x1 : (List Int)) (x2 : (List Int)) (a : Int) (b : Int) (c : Int) (d : Int) (e : Int) (f : Int) (g : Int) (h_ : Int) (i : Int) : Option (Step (Int × Int × Int × Int × Int × Int × Int × Int × Int) (List Int)) :=
  if (decide (i < 64)) then (am2 e 6).bind fun x30 => (am2 e 11).bind fun x31 => (am2 e 25).bind fun x32 => (ae2 x1 i).bind fun x33 => (ae2 x2 i).bind fun x34 => (am2 a 2).bind fun x35 => (am2 a 13).bind fun x36 => (am2 a 22).bind fun x37 => some (.cont ((wrap .u32 ((wrap .u32 ((wrap .u32 ((wrap .u32 ((wrap .u32 (h_ + (wrap .u32 ((ofInt (IntKind.bits .u32) (wrap .u32 ((ofInt (IntKind.bits .u32) x30 ^^^ (ofInt (IntKind.bits .u32) x31)).toNat : Nat)) ^^^ (ofInt (IntKind.bits .u32) x32)).toNat : Nat)))) + (wrap .u32 ((ofInt (IntKind.bits .u32) (wrap .u32 ((ofInt (IntKind.bits .u32) e &&& (ofInt (IntKind.bits .u32) f)).toNat : Nat)) ^^^ (ofInt (IntKind.bits .u32) (wrap .u32 ((ofInt (IntKind.bits .u32) (notI .u32 e) &&& (ofInt (IntKind.bits .u32) g)).toNat : Nat)))).toNat : Nat)))) + x33)) + x34)) + (wrap .u32 ((wrap .u32 ((ofInt (IntKind.bits .u32) (wrap .u32 ((ofInt (IntKind.bits .u32) x35 ^^^ (ofInt (IntKind.bits .u32) x36)).toNat : Nat)) ^^^ (ofInt (IntKind.bits .u32) x37)).toNat : Nat)) + (wrap .u32 ((ofInt (IntKind.bits .u32) (wrap .u32 ((ofInt (IntKind.bits .u32) (wrap .u32 ((ofInt (IntKind.bits .u32) a &&& (ofInt (IntKind.bits .u32) b)).toNat : Nat)) ^^^ (ofInt (IntKind.bits .u32) (wrap .u32 ((ofInt (IntKind.bits .u32) a &&& (ofInt (IntKind.bits .u32) c)).toNat : Nat)))).toNat : Nat)) ^^^ (ofInt (IntKind.bits .u32) (wrap .u32 ((ofInt (IntKind.bits .u32) b &&& (ofInt (IntKind.bits .u32) c)).toNat : Nat)))).toNat : Nat)))))),a,b,c,(wrap .u32 (d + (wrap .u32 ((wrap .u32 ((wrap .u32 ((wrap .u32 (h_ + (wrap .u32 ((ofInt (IntKind.bits .u32) (wrap .u32 ((ofInt (IntKind.bits .u32) x30 ^^^ (ofInt (IntKind.bits .u32) x31)).toNat : Nat)) ^^^ (ofInt (IntKind.bits .u32) x32)).toNat : Nat)))) + (wrap .u32 ((ofInt (IntKind.bits .u32) (wrap .u32 ((ofInt (IntKind.bits .u32) e &&& (ofInt (IntKind.bits .u32) f)).toNat : Nat)) ^^^ (ofInt (IntKind.bits .u32) (wrap .u32 ((ofInt (IntKind.bits .u32) (notI .u32 e) &&& (ofInt (IntKind.bits .u32) g)).toNat : Nat)))).toNat : Nat)))) + x33)) + x34)))),e,f,g,(wrap .i64 (i + 1)))) else (aQ0 words a b c d e f g h_).map .done
def aY7 (words : (List Int)) (p : Str) : Option (List Int) :=
  (aP9).bind fun x1 => (aH9 p).bind fun x2 => (ae2 words 0).bind fun x3 => (ae2 words 1).bind fun x4 => (ae2 words 2).bind fun x5 => (ae2 words 3).bind fun x6 => (ae2 words 4).bind fun x7 => (ae2 words 5).bind fun x8 => (ae2 words 6).bind fun x9 => (ae2 words 7).bind fun x10 => ab1 (fun s => ax6 words x1 x2 s.1 s.2.1 s.2.2.1 s.2.2.2.1 s.2.2.2.2.1 s.2.2.2.2.2.1 s.2.2.2.2.2.2.1 s.2.2.2.2.2.2.2.1 s.2.2.2.2.2.2.2.2) (x3,x4,x5,x6,x7,x8,x9,x10,0)
def ay9 (h_ : (List Int)) (out : Str) (i_1 : Int) : Option (Step (Str × Int) Str) :=
  if (decide (i_1 < 8)) then (ae2 h_ i_1).bind fun x18 => (aJ1 (wrap .u64 x18) 4).bind fun x19 => (aj2 out x19).bind fun x20 => some (.cont (x20,(wrap .i64 (i_1 + 1)))) else some (.done out)
def aJ2 (x1 : Str) (i : Int) (h_ : (List Int)) : Option (Step (Int × (List Int)) Str) :=
  if (decide (i < (length x1 : Int))) then (cut x1 i (wrap .i64 (i + 64))).bind fun x9 => (aY7 h_ x9).bind fun x10 => some (.cont ((wrap .i64 (i + 64)),x10)) else (ab1 (fun s => ay9 h_ s.1 s.2) ([],0)).map .done
def aV1 (s_ : Str) : Option Str :=
  (aS3 s_).bind fun x1 => ab1 (fun s => aJ2 x1 s.1 s.2) (0,[1779033703,3144134277,1013904242,2773480762,1359893119,2600822924,528734635,1541459225])
def ao5 (x_ : Int) (i : Int) (b : (List Int)) (p11 : Int) : Option (Step (Int × (List Int)) Str) :=
  (aE5 1 b [(wrap .u8 ((ofInt (IntKind.bits .u8) p11 ^^^ (ofInt (IntKind.bits .u8) x_)).toNat : Nat))]).bind fun x12 => some (.cont ((wrap .i64 (i + 1)),x12))
def am3 (key : Str) (x_ : Int) (i : Int) (b : (List Int)) : Option (Step (Int × (List Int)) Str) :=
  if (decide (i < 64)) then if (decide (i < (length key : Int))) then (ah4 key i).bind fun c14 => ao5 x_ i b (c14.toNat : Int) else ao5 x_ i b 0 else some (.done (bI2 b))
def au6 (key : Str) (x_ : Int) : Option Str :=
  ab1 (fun s => am3 key x_ s.1 s.2) (0,([] : List Int))
def aJ3 (s_ : Str) (p2 : Str) : Option Str :=
  (au6 p2 92).bind fun x3 => (au6 p2 54).bind fun x4 => (aj2 x4 s_).bind fun x5 => (aV1 x5).bind fun x6 => (aj2 x3 x6).bind fun x7 => (aV1 x7).bind fun x8 => some x8
def az9 (key : Str) (s_ : Str) : Option Str :=
  if (decide (64 < (length key : Int))) then (aV1 key).bind fun x10 => aJ3 s_ x10 else aJ3 s_ key
def aV2 (c : aa3) (k : Int) (client : Str) (server : Str) : Option Str :=
  (ak6 c.Key).bind fun x1 => (au0 c.Key).bind fun x2 => if ((decide (c.Pz = [112,108,97,105,110])) && (decide (k = 0))) then (aD9 x1).bind fun x6 => (aD9 x2).bind fun x7 => (aj2 x6 x7).bind fun x8 => some x8 else if ((decide (c.Pz = [99,104,97,108])) && (decide (k = 0))) then some server else if ((decide (c.Pz = [99,104,97,108])) && (decide (k = 1))) then (aD9 x1).bind fun x15 => (az9 x2 server).bind fun x16 => (aj2 x15 x16).bind fun x17 => some x17 else if ((decide (c.Pz = [109,117,116,117,97,108])) && (decide (k = 0))) then (aD9 x1).bind fun x21 => (aj2 x21 client).bind fun x22 => some x22 else if ((decide (c.Pz = [109,117,116,117,97,108])) && (decide (k = 1))) then (aj2 [115,101,114,118,101,114] client).bind fun x26 => (aj2 x26 server).bind fun x27 => (az9 x2 x27).bind fun x28 => (aj2 server x28).bind fun x29 => some x29 else if ((decide (c.Pz = [109,117,116,117,97,108])) && (decide (k = 2))) then (aj2 [99,108,105,101,110,116] client).bind fun x33 => (aj2 x33 server).bind fun x34 => (az9 x2 x34).bind fun x35 => some x35 else some [111,107]
def ar8 (c : aa3) (peer : Str) : Option Str :=
  if (decide (c.Rz = 1)) then (aV2 c c.Step c.Own peer).bind fun x2 => some x2 else (aV2 c c.Step peer c.Own).bind fun x3 => some x3
def at0 (c : aa3) : Option aa3 :=
  (aO8 c).bind fun x1 => if (decide (x1 = 3)) then (ak6 c.Key).bind fun x3 => some {c with Hz := x1,Uz := x3} else some {c with Hz := x1}
def a83 (c : aa3) : Option (aa3 × Str × Int) :=
  if (!decide (c.Hz = 1)) then some (c,[],53) else (ar8 c c.Ez).bind fun x2 => (at0 {c with Step := wrap .i64 (c.Step + 1)}).bind fun x3 => some (x3,x2,0)
def aQ1 (a : aa2) (i : Int) (c : aa3) : Option aa2 :=
  (aE5 128 ([] : List aa3) a.Cz).bind fun x1 => (ae2 x1 i).bind fun x2 => some {a with Cz := set x1 (Int.toNat i) c}
def aB8 (a : aa2) (id : Int) (offset : Int) (count : Int) : Option (aa2 × Str × Int) :=
  (ao1 a id).bind fun x1 => if (!x1) then some (a,[],8) else if (decide (id = 1)) then some (a,[],10) else if ((decide (offset < 0)) || (decide (count < 0))) then some (a,[],1) else (aB7 a id).bind fun x7 => if (decide (x7 < 0)) then (aH8 a id).bind fun x9 => (cut x9 (min offset (length x9 : Int)) (wrap .i64 ((min offset (length x9 : Int)) + (min (min count 65536) (wrap .i64 ((length x9 : Int) - (min offset (length x9 : Int)))))))).bind fun x10 => some (a,x10,0) else (ae2 a.Cz x7).bind fun x11 => (av9 x11).bind fun x12 => if x12 then some (a,[],53) else (ae2 a.Cz x7).bind fun x14 => (a83 x14).bind fun x15 => if (!decide (x15.2.2 = 0)) then some (a,[],x15.2.2) else if (decide ((min count 65536) < (length x15.2.1 : Int))) then some (a,[],3) else (aQ1 a x7 x15.1).bind fun x18 => some (x18,x15.2.1,0)
def ao6 (a : aa2) (data : Str) (from_ : Int) (i : Int) (v19 : aa2) : Option (Step (Int × Int × aa2) (aa2 × Int)) :=
  if (decide (i ≤ (length data : Int))) then (if (decide (i < (length data : Int))) then (ah4 data i).bind fun c23 => some (!decide ((c23.toNat : Int) = 10)) else some false).bind fun t24 => if t24 then some (.cont (from_,(wrap .i64 (i + 1)),v19)) else if (decide (from_ < i)) then (cut data from_ i).bind fun x27 => (as8 v19 x27).bind fun x28 => if (!decide (x28.2 = 0)) then some (.done (a,x28.2)) else some (.cont ((wrap .i64 (i + 1)),(wrap .i64 (i + 1)),x28.1)) else some (.cont ((wrap .i64 (i + 1)),(wrap .i64 (i + 1)),v19)) else some (.done (v19,0))
def aI0 (a : aa2) (data : Str) : Option (aa2 × Int) :=
  ab1 (fun s => ao6 a data s.1 s.2.1 s.2.2) (0,0,a)
def at4 (l : (List aa1)) (name : Str) (i : Int) (out : (List aa1)) : Option (Step (Int × (List aa1)) (List aa1)) :=
  if (decide (i < (length l : Int))) then (ae2 l i).bind fun x10 => if (!decide (x10.Mz = name)) then (ae2 l i).bind fun x12 => (aE5 40 out [x12]).bind fun x13 => some (.cont ((wrap .i64 (i + 1)),x13)) else some (.cont ((wrap .i64 (i + 1)),out)) else some (.done out)
def aE0 (l : (List aa1)) (name : Str) : Option (List aa1) :=
  ab1 (fun s => at4 l name s.1 s.2) (0,([] : List aa1))
def aJ4 (a : aa2) (pattern : (List aa1)) (i : Int) : Option (Step Int ((List aa1) × Bool)) :=
  if (decide (i < (length a.Kz : Int))) then (ae2 a.Kz i).bind fun x10 => (aD8 x10 pattern).bind fun x11 => if x11 then (ae2 a.Kz i).bind fun x13 => (aE5 40 ([] : List aa1) x13).bind fun x14 => some (.done (x14,true)) else some (.cont (wrap .i64 (i + 1))) else some (.done (([] : List aa1),false))
def aV3 (a : aa2) (pattern : (List aa1)) : Option ((List aa1) × Bool) :=
  ab1 (fun s => aJ4 a pattern s) 0
def bc4 (base : Int) : Option Bool :=
  some ((decide (base = 8)) || ((decide (base = 10)) || (decide (base = 16))))
def ar0 (base : Int) (n_1 : Int) (s_ : Str) : Option (Step (Int × Str) Str) :=
  if ((decide (n_1 < 0)) || (decide (s_ = []))) then (remI n_1 base).bind fun x12 => (cut [48,49,50,51,52,53,54,55,56,57,97,98,99,100,101,102] (wrap .i64 (0 - x12)) (wrap .i64 ((wrap .i64 (0 - x12)) + 1))).bind fun x13 => (aj2 x13 s_).bind fun x14 => (cE8 .i64 n_1 base).bind fun x15 => some (.cont (x15,x14)) else some (.done s_)
def aJ5 (n : Int) (base : Int) : Option Str :=
  ab1 (fun s => ar0 base s.1 s.2) (n,[])
def aV4 (n : Int) (base : Int) : Option Str :=
  (bc4 base).bind fun x1 => if (!x1) then some [] else if (decide (n < 0)) then (aJ5 n base).bind fun x4 => (aj2 [45] x4).bind fun x5 => some x5 else (aJ5 (wrap .i64 (0 - n)) base).bind fun x6 => some x6
def aY8 (proto : Str) (role : Int) (key : (List aa1)) (aR5 : Str) : Option (aa3 × Int) :=
  (ah8 proto).bind fun x1 => if (decide (x1 = 0)) then some ((aa3.mk 0 [] 0 0 0 ([] : List aa1) [] [] [] 0),53) else if (bif (!decide (role = 1)) then ((!decide (role = 2)) || (!decide ((length aR5 : Int) = 32))) else (!decide ((length aR5 : Int) = 32))) then some ((aa3.mk 0 [] 0 0 0 ([] : List aa1) [] [] [] 0),1) else (ak7 key).bind fun x7 => if (!decide (x7 = 0)) then some ((aa3.mk 0 [] 0 0 0 ([] : List aa1) [] [] [] 0),x7) else (aE5 40 ([] : List aa1) key).bind fun x9 => (at0 (aa3.mk 0 proto role 0 0 x9 aR5 [] [] 0)).bind fun x10 => some (x10,0)
def aA0 (a : aa2) (i : Int) (x3 : ((List aa1) × Int × Int)) (x5 : (Str × Bool)) (p10 : Int) : Option (aa2 × Int) :=
  if (decide (p10 = 0)) then some (a,1) else (aE0 x3.1 [112,114,111,116,111]).bind fun x12 => (aE0 x12 [114,111,108,101]).bind fun x13 => (aV3 a x13).bind fun x14 => if (!x14.2) then some (a,52) else if (decide (9007199254740991 ≤ a.Nz)) then some (a,22) else (aV4 a.Nz 10).bind fun x17 => (az9 a.Sz x17).bind fun x18 => (aY8 x5.1 p10 x14.1 x18).bind fun x19 => if (!decide (x19.2 = 0)) then some (a,x19.2) else (ae2 a.Cz i).bind fun x21 => (aQ1 a i {x19.1 with Id := x21.Id}).bind fun x22 => some ({x22 with Nz := wrap .i64 (a.Nz + 1)},0)
def aI1 (a : aa2) (i : Int) (x3 : ((List aa1) × Int × Int)) (x5 : (Str × Bool)) (p8 : Int) : Option (aa2 × Int) :=
  (ay6 x3.1 [114,111,108,101]).bind fun x23 => if (decide (x23 = [115,101,114,118,101,114])) then aA0 a i x3 x5 2 else aA0 a i x3 x5 p8
def aY9 (a : aa2) (i : Int) (data : Str) : Option (aa2 × Int) :=
  (aG3 data [115,116,97,114,116]).bind fun x1 => if (!x1.2) then some (a,53) else (aA9 x1.1).bind fun x3 => if (!decide (x3.2.2 = 0)) then some (a,x3.2.2) else (aB2 x3.1 [112,114,111,116,111]).bind fun x5 => if (!x5.2) then some (a,53) else (ay6 x3.1 [114,111,108,101]).bind fun x25 => if (decide (x25 = [99,108,105,101,110,116])) then aI1 a i x3 x5 1 else aI1 a i x3 x5 0
def aE1 (s_ : Str) (at_ : Int) : Option (Str × Bool) :=
  if ((decide ((length s_ : Int) < at_)) || (decide ((wrap .i64 ((length s_ : Int) - at_)) < 32))) then some ([],false) else (cut s_ at_ (wrap .i64 (at_ + 32))).bind fun x4 => some (x4,true)
def aM1 (c : aa3) (s_ : Str) : Option (Str × Bool) :=
  (aw0 c).bind fun x1 => (if x1 then some true else (aw0 {c with Step := wrap .i64 (c.Step + 1)}).bind fun x3 => some (!x3)).bind fun t4 => if t4 then some (c.Ez,true) else if ((decide (c.Pz = [109,117,116,117,97,108])) && (decide (c.Rz = 2))) then (ak6 c.Key).bind fun x9 => (aE1 s_ (wrap .i64 (2 + (length x9 : Int)))).bind fun x10 => some (x10.1,x10.2) else (aE1 s_ 0).bind fun x11 => some (x11.1,x11.2)
def aZ0 (c : aa3) (s_ : Str) : Option (aa3 × Int) :=
  if (!decide (c.Hz = 2)) then some (c,53) else (aM1 c s_).bind fun x2 => (if (!x2.2) then some true else (ar8 c x2.1).bind fun x4 => some (!decide (x4 = s_))).bind fun t5 => if t5 then some ({c with Hz := 4,Err := 28},28) else (at0 {c with Step := wrap .i64 (c.Step + 1),Ez := x2.1}).bind fun x7 => some (x7,0)
def ap3 (data : Str) (p9 : Int) (p10 : aa2) : Option (aa2 × Int × Int) :=
  if (!decide (p9 = 0)) then some (p10,0,p9) else some (p10,(length data : Int),0)
def aQ2 (a : aa2) (id : Int) (data : Str) : Option (aa2 × Int × Int) :=
  (ao1 a id).bind fun x1 => if (!x1) then some (a,0,8) else if (decide (id = 1)) then some (a,0,10) else if ((decide (id = 3)) || (decide (id = 4))) then some (a,0,11) else (aB7 a id).bind fun x7 => if (decide (x7 < 0)) then (aI0 a data).bind fun x13 => ap3 data x13.2 x13.1 else (ae2 a.Cz x7).bind fun x14 => (av9 x14).bind fun x15 => if x15 then (aY9 a x7 data).bind fun x17 => ap3 data x17.2 x17.1 else (ae2 a.Cz x7).bind fun x18 => (aZ0 x18 data).bind fun x19 => if ((decide (x19.2 = 0)) || (decide (x19.2 = 28))) then (aQ1 a x7 x19.1).bind fun x23 => ap3 data x19.2 x23 else ap3 data x19.2 a
def aZ1 (a : aa2) (id : Int) (mode : Int) : Option aa2 :=
  (aB7 a id).bind fun x1 => if (decide (x1 < 0)) then some a else (cut a.Cz 0 x1).bind fun x3 => (aE5 128 ([] : List aa3) x3).bind fun x4 => (cut a.Cz (wrap .i64 (x1 + 1)) (length a.Cz : Int)).bind fun x5 => (aE5 128 x4 x5).bind fun x6 => some {a with Cz := x6}
def aN3 (a : aa2) (o : ay3) : Option (aa2 × Bool) :=
  if (decide (o.Kind = 0)) then (ah5 a o.Text).bind fun x2 => (as8 a o.Text).bind fun x3 => (ag5 x2.1 x3.1).bind fun x4 => some (x2.1,(x4 && (decide (x2.2 = x3.2)))) else if (decide (o.Kind = 1)) then (au3 a o.Uz o.Id o.Mode).bind fun x8 => (a82 a o.Uz o.Id o.Mode).bind fun x9 => (ag5 x8.1 x9.1).bind fun x10 => some (x8.1,(x10 && ((decide (x8.2.1 = x9.2.1)) && (decide (x8.2.2 = x9.2.2))))) else if (decide (o.Kind = 2)) then (ai5 a o.Id o.Mode 200).bind fun x15 => (aB8 a o.Id o.Mode 200).bind fun x16 => (ag5 x15.1 x16.1).bind fun x17 => some (x15.1,(x17 && ((decide (x15.2.1 = x16.2.1)) && (decide (x15.2.2 = x16.2.2))))) else if (decide (o.Kind = 3)) then (ap2 a o.Id o.Text).bind fun x22 => (aQ2 a o.Id o.Text).bind fun x23 => (ag5 x22.1 x23.1).bind fun x24 => some (x22.1,(x24 && ((decide (x22.2.1 = x23.2.1)) && (decide (x22.2.2 = x23.2.2))))) else (aG2 a o.Id o.Mode).bind fun x28 => (aZ1 a o.Id o.Mode).bind fun x29 => (ag5 x28 x29).bind fun x30 => some (x28,x30)
def aA5 (a : aa2) (o : ay3) : Option Bool :=
  (aA6 a).bind fun x1 => (if (!x1) then some true else if (decide (2000 < (length o.Text : Int))) then some true else if (decide (1000 < (length o.Uz : Int))) then some true else (aw4 a).bind fun x5 => some (!x5)).bind fun t6 => if t6 then (af2).bind fun x8 => some x8 else (aN3 a o).bind fun x9 => (if x9.2 then (af2).bind fun x11 => some x11 else some false).bind fun t12 => some t12
def a02 (a : aa2) (x_ : aO6) : Option Bool :=
  (aA6 a).bind fun x1 => (if (!x1) then some true else if (decide (16 < x_.Id)) then some true else (aw4 a).bind fun x4 => some (!x4)).bind fun t5 => if t5 then (af2).bind fun x7 => some x7 else (ai5 a x_.Id x_.Offset x_.Nz).bind fun x8 => (aB8 a x_.Id x_.Offset x_.Nz).bind fun x9 => (ag5 a x8.1).bind fun x10 => (if x10 then if (decide (x8.2.1 = x9.2.1)) then if (decide (x8.2.2 = x9.2.2)) then (af2).bind fun x14 => some x14 else some false else some false else some false).bind fun t15 => some t15
def aK6 : Option Bool :=
  (af2).bind fun x34 => some x34
def aK7 (l : (List ay3)) (v20 : Int) (v21 : aa2) : Option (Step (Int × aa2) Bool) :=
  if (decide (v20 < (length l : Int))) then (ae2 l v20).bind fun x24 => if ((decide (500 < (length x24.Text : Int))) || (decide (1000 < (length x24.Uz : Int)))) then (af2).bind fun x28 => some (.done x28) else (aN3 v21 x24).bind fun x29 => (if (!x29.2) then some true else (ax0 x29.1).bind fun x31 => some (!x31)).bind fun t32 => if t32 then some (.done false) else some (.cont ((wrap .i64 (v20 + 1)),x29.1)) else (aK6).map .done
def a03 (owner : Str) (seed : Str) (l : (List ay3)) : Option Bool :=
  if ((decide (25 < (length l : Int))) || ((decide (2000 < (length seed : Int))) || (decide (1000 < (length owner : Int))))) then (af2).bind fun x5 => some x5 else (aw5 owner seed).bind fun x6 => if (!decide (x6.2 = 0)) then (af2).bind fun x8 => some x8 else ab1 (fun s => aK7 l s.1 s.2) (0,x6.1)
def a84 (c : aa3) : Option (Str × Bool) :=
  if (!decide (c.Hz = 3)) then some ([],false) else some (c.Uz,true)
def az0 (x10 : (aa2 × Int × Int)) (x11 : (aa2 × Int × Int)) (v38 : Int) (p44 : aa2) (p45 : aa2) : Option (Step (Int × aa2 × aa2) Bool) :=
  (ai5 p45 x11.2.1 0 1000).bind fun x46 => if (decide (x46.2.2 = 0)) then (ap2 p44 x10.2.1 x46.2.1).bind fun x48 => if (!decide (x48.2.2 = 0)) then some (.done false) else some (.cont ((wrap .i64 (v38 + 1)),x48.1,x46.1)) else some (.cont ((wrap .i64 (v38 + 1)),p44,p45))
def aK8 (v39 : aa2) (v40 : aa2) : Option Bool :=
  if ((!decide ((length v39.Cz : Int) = 1)) || (!decide ((length v40.Cz : Int) = 1))) then some false else (ae2 v40.Cz 0).bind fun x57 => (a84 x57).bind fun x58 => (ae2 v39.Cz 0).bind fun x59 => (a84 x59).bind fun x60 => (if x58.2 then if x60.2 then if (decide (x58.1 = [97,110,110])) then (af2).bind fun x64 => some x64 else some false else some false else some false).bind fun t65 => some t65
def aK9 (x10 : (aa2 × Int × Int)) (x11 : (aa2 × Int × Int)) (v38 : Int) (v39 : aa2) (v40 : aa2) : Option (Step (Int × aa2 × aa2) Bool) :=
  if (decide (v38 < 6)) then (ai5 v39 x10.2.1 0 1000).bind fun x50 => if (decide (x50.2.2 = 0)) then (ap2 v40 x11.2.1 x50.2.1).bind fun x52 => if (!decide (x52.2.2 = 0)) then some (.done false) else az0 x10 x11 v38 x50.1 x52.1 else az0 x10 x11 v38 v39 v40 else (aK8 v39 v40).map .done
def a04 (which : Int) (x_ : Str) (y : Str) : Option Bool :=
  if ((decide (100 < (length x_ : Int))) || (decide (100 < (length y : Int)))) then (af2).bind fun x4 => some x4 else (ae2 [[99,104,97,108],[109,117,116,117,97,108],[112,108,97,105,110]] (tmod (wrap .i64 which) 3)).bind fun x5 => (aw5 [97,100,109] x_).bind fun x6 => (aw5 [97,100,109] y).bind fun x7 => (ah5 x6.1 [107,101,121,32,117,115,101,114,61,97,110,110,32,33,115,101,99,114,101,116,61,112,119]).bind fun x8 => (ah5 x7.1 [107,101,121,32,100,111,109,61,122,32,117,115,101,114,61,97,110,110,32,33,115,101,99,114,101,116,61,112,119]).bind fun x9 => (au3 x8.1 [97,100,109] 4 2).bind fun x10 => (au3 x9.1 [97,100,109] 4 2).bind fun x11 => (aj2 [115,116,97,114,116,32,112,114,111,116,111,61] x5).bind fun x12 => (aj2 x12 [32,114,111,108,101,61,99,108,105,101,110,116,32,117,115,101,114,61,97,110,110]).bind fun x13 => (ap2 x10.1 x10.2.1 x13).bind fun x14 => (aj2 [115,116,97,114,116,32,112,114,111,116,111,61] x5).bind fun x15 => (aj2 x15 [32,114,111,108,101,61,115,101,114,118,101,114,32,117,115,101,114,61,97,110,110]).bind fun x16 => (ap2 x11.1 x11.2.1 x16).bind fun x17 => if ((!decide (x6.2 = 0)) || ((!decide (x7.2 = 0)) || ((!decide (x8.2 = 0)) || ((!decide (x9.2 = 0)) || ((!decide (x10.2.2 = 0)) || ((!decide (x11.2.2 = 0)) || ((!decide (x14.2.2 = 0)) || (!decide (x17.2.2 = 0))))))))) then some false else ab1 (fun s => aK9 x10 x11 s.1 s.2.1 s.2.2) (0,x14.1,x17.1)
def a40 (a : aa2) (id : Int) : Option Int :=
  (an7 a id).bind fun x1 => if (!x1) then some 8 else if (!decide (id = 1)) then some 9 else some 0
def bo3 (a : aa2) (v4 : Int) (out : (List Int)) : Option (Step (Int × (List Int)) (List Int)) :=
  if (decide (v4 < (length a.Cz : Int))) then (ae2 a.Cz v4).bind fun x8 => (aE5 8 out [(wrap .i64 (16 + x8.Id))]).bind fun x9 => some (.cont ((wrap .i64 (v4 + 1)),x9)) else some (.done out)
def bw7 (a : aa2) : Option (List Int) :=
  ab1 (fun s => bo3 a s.1 s.2) (0,[2,3,4])
def bl2 (id : Int) : Option (Str × Int) :=
  if (decide (id = 1)) then some ([47],2147484013) else if (decide (id = 2)) then some ([99,116,108],384) else if (decide (id = 3)) then some ([112,114,111,116,111],292) else if (decide (id = 4)) then some ([114,112,99],384) else (bg5 (wrap .i64 (id - 16)) 10).bind fun x5 => some (x5,384)
def ba2 (want : Str) (x4 : (List Int)) (v9 : Int) : Option (Step Int (Int × Int)) :=
  if (decide (v9 < (length x4 : Int))) then (ae2 x4 v9).bind fun x12 => (bl2 x12).bind fun x13 => if (decide (x13.1 = want)) then some (.done (x12,0)) else some (.cont (wrap .i64 (v9 + 1))) else some (.done (0,8))
def aV5 (a : aa2) (id : Int) (want : Str) : Option (Int × Int) :=
  (a40 a id).bind fun x1 => if (!decide (x1 = 0)) then some (0,x1) else if (decide (want = [46,46])) then some (1,0) else (bw7 a).bind fun x4 => ab1 (fun s => ba2 want x4 s) 0
def a85 (id : Int) : Option Str :=
  if (decide (id ≤ 4)) then (ae2 [[],[47],[99,116,108],[112,114,111,116,111],[114,112,99]] id).bind fun x2 => some x2 else (aV4 (wrap .i64 (id - 16)) 10).bind fun x3 => some x3
def ba3 (a : aa2) (s_ : Str) (i_1 : Int) : Option (Step Int (Int × Int)) :=
  if (decide (i_1 < (length a.Cz : Int))) then (ae2 a.Cz i_1).bind fun x20 => (a85 (wrap .i64 (x20.Id + 16))).bind fun x21 => if (decide (x21 = s_)) then (ae2 a.Cz i_1).bind fun x23 => some (.done ((wrap .i64 (x23.Id + 16)),0)) else some (.cont (wrap .i64 (i_1 + 1))) else some (.done (0,8))
def bg6 (a : aa2) (s_ : Str) (i : Int) : Option (Step Int (Int × Int)) :=
  if (decide (i ≤ 4)) then (a85 i).bind fun x10 => if (decide (x10 = s_)) then some (.done (i,0)) else some (.cont (wrap .i64 (i + 1))) else (ab1 (fun s => ba3 a s_ s) 0).map .done
def bl3 (a : aa2) (id : Int) (s_ : Str) : Option (Int × Int) :=
  (ao1 a id).bind fun x1 => if (!x1) then some (0,8) else if (!decide (id = 1)) then some (0,9) else if (decide (s_ = [46,46])) then some (1,0) else ab1 (fun s => bg6 a s_ s) 2
def aN4 (a : aa2) (id : Int) : Option (ae3 × Int) :=
  (an7 a id).bind fun x1 => if (!x1) then some ((ae3.mk 0 0 (bc0.mk 0 0 0) 0 0 0 0 [] [] [] []),8) else (bl2 id).bind fun x3 => if (decide (id = 1)) then some ((ae3.mk 6 0 (bc0.mk 128 0 id) x3.2 0 0 0 x3.1 a.Oz a.Oz []),0) else some ((ae3.mk 6 0 (bc0.mk 0 0 id) x3.2 0 0 0 x3.1 a.Oz a.Oz []),0)
def aZ2 (a : aa2) (id : Int) (x3 : Str) (p5 : Int) (p6 : Int) : Option (ae3 × Int) :=
  if (decide (id = 3)) then some ((ae3.mk 6 0 (bc0.mk p5 0 id) 292 0 0 0 x3 a.Oz a.Oz []),0) else some ((ae3.mk 6 0 (bc0.mk p5 0 id) p6 0 0 0 x3 a.Oz a.Oz []),0)
def aV6 (a : aa2) (id : Int) : Option (ae3 × Int) :=
  (ao1 a id).bind fun x1 => if (!x1) then some ((ae3.mk 0 0 (bc0.mk 0 0 0) 0 0 0 0 [] [] [] []),8) else (a85 id).bind fun x3 => if (decide (id = 1)) then aZ2 a id x3 128 2147484013 else aZ2 a id x3 0 384
def ba4 (a : aa2) (x3 : (List Int)) (v8 : Int) (out : (List ae3)) : Option (Step (Int × (List ae3)) ((List ae3) × Int)) :=
  if (decide (v8 < (length x3 : Int))) then (ae2 x3 v8).bind fun x12 => (aN4 a x12).bind fun x13 => (aE5 136 out [x13.1]).bind fun x14 => some (.cont ((wrap .i64 (v8 + 1)),x14)) else some (.done (out,0))
def aV7 (a : aa2) (id : Int) : Option ((List ae3) × Int) :=
  (a40 a id).bind fun x1 => if (!decide (x1 = 0)) then some (([] : List ae3),x1) else (bw7 a).bind fun x3 => ab1 (fun s => ba4 a x3 s.1 s.2) (0,([] : List ae3))
def ba5 (a : aa2) (i_1 : Int) (out_1 : (List ae3)) : Option (Step (Int × (List ae3)) ((List ae3) × Int)) :=
  if (decide (i_1 < (length a.Cz : Int))) then (ae2 a.Cz i_1).bind fun x20 => (aV6 a (wrap .i64 (16 + x20.Id))).bind fun x21 => (aE5 136 out_1 [x21.1]).bind fun x22 => some (.cont ((wrap .i64 (i_1 + 1)),x22)) else some (.done (out_1,0))
def bg7 (a : aa2) (i : Int) (out : (List ae3)) : Option (Step (Int × (List ae3)) ((List ae3) × Int)) :=
  if (decide (i ≤ 4)) then (aV6 a i).bind fun x10 => (aE5 136 out [x10.1]).bind fun x11 => some (.cont ((wrap .i64 (i + 1)),x11)) else (ab1 (fun s => ba5 a s.1 s.2) (0,out)).map .done
def bE2 (a : aa2) (id : Int) : Option ((List ae3) × Int) :=
  (ao1 a id).bind fun x1 => if (!x1) then some (([] : List ae3),8) else if (!decide (id = 1)) then some (([] : List ae3),9) else ab1 (fun s => bg7 a s.1 s.2) (2,([] : List ae3))
def bg8 (a : (List ae3)) (b : (List ae3)) (i : Int) : Option (Step Int Bool) :=
  if (decide (i < (length a : Int))) then (ae2 a i).bind fun x9 => (ae2 b i).bind fun x10 => if (!(decide (x9.Type_ = x10.Type_) && (decide (x9.Dev = x10.Dev) && (decide (x9.Qid.Type_ = x10.Qid.Type_) && (decide (x9.Qid.Vers = x10.Qid.Vers) && (decide (x9.Qid.Path = x10.Qid.Path) && (decide (x9.Mode = x10.Mode) && (decide (x9.Atime = x10.Atime) && (decide (x9.Mtime = x10.Mtime) && (decide (x9.Length = x10.Length) && (decide (x9.Mz = x10.Mz) && (decide (x9.Uid = x10.Uid) && (decide (x9.Gid = x10.Gid) && (decide (x9.Muid = x10.Muid) && true)))))))))))))) then some (.done false) else some (.cont (wrap .i64 (i + 1))) else some (.done true)
def bl4 (a : (List ae3)) (b : (List ae3)) : Option Bool :=
  if (!decide ((length a : Int) = (length b : Int))) then some false else ab1 (fun s => bg8 a b s) 0
def a05 (a : aa2) (seed : Str) (x_ : aO6) : Option Bool :=
  (aA6 a).bind fun x1 => (if (!x1) then some true else if (decide (2000 < (length seed : Int))) then some true else if (decide (1000 < (length x_.Mz : Int))) then some true else (aF0 x_.Pattern).bind fun x5 => some (!x5)).bind fun t6 => if t6 then (af2).bind fun x8 => some x8 else (aw5 x_.Mz seed).bind fun x9 => (a28 x_.Mz seed).bind fun x10 => (ag5 x9.1 x10.1).bind fun x11 => if ((!x11) || (!decide (x9.2 = x10.2))) then some false else (aw4 a).bind fun x15 => if (!x15) then (ax0 a).bind fun x17 => (if (!x17) then (af2).bind fun x19 => some x19 else some false).bind fun t20 => some t20 else (aU8 a x_.Pattern).bind fun x21 => (aV3 a x_.Pattern).bind fun x22 => (aV5 a x_.Id x_.Mz).bind fun x23 => (bl3 a x_.Id x_.Mz).bind fun x24 => (aN4 a x_.Id).bind fun x25 => (aV6 a x_.Id).bind fun x26 => (aV7 a x_.Id).bind fun x27 => (bE2 a x_.Id).bind fun x28 => (ax0 a).bind fun x29 => (if x29 then (at8 x21.1 x22.1).bind fun x31 => if x31 then if (decide (x21.2 = x22.2)) then if (decide (x23.1 = x24.1)) then if (decide (x23.2 = x24.2)) then if (decide (x25.1.Type_ = x26.1.Type_) && (decide (x25.1.Dev = x26.1.Dev) && (decide (x25.1.Qid.Type_ = x26.1.Qid.Type_) && (decide (x25.1.Qid.Vers = x26.1.Qid.Vers) && (decide (x25.1.Qid.Path = x26.1.Qid.Path) && (decide (x25.1.Mode = x26.1.Mode) && (decide (x25.1.Atime = x26.1.Atime) && (decide (x25.1.Mtime = x26.1.Mtime) && (decide (x25.1.Length = x26.1.Length) && (decide (x25.1.Mz = x26.1.Mz) && (decide (x25.1.Uid = x26.1.Uid) && (decide (x25.1.Gid = x26.1.Gid) && (decide (x25.1.Muid = x26.1.Muid) && true))))))))))))) then if (decide (x25.2 = x26.2)) then (bl4 x27.1 x28.1).bind fun x38 => if x38 then if (decide (x27.2 = x28.2)) then (af2).bind fun x41 => some x41 else some false else some false else some false else some false else some false else some false else some false else some false else some false).bind fun t42 => some t42
def aL0 (v28 : Int) (v29 : (List (List aa1))) (l : (List aa1)) : Option (Step (Int × (List (List aa1))) Bool) :=
  (aE5 24 v29 [l]).bind fun x47 => some (.cont ((wrap .i64 (v28 + 1)),x47))
def aL1 (secret : Str) (v28 : Int) (v29 : (List (List aa1))) (x33 : (List aa1)) (v39 : Int) (l : (List aa1)) : Option (Step (Int × (List aa1)) (Step (Int × (List (List aa1))) Bool)) :=
  if (decide (v39 < (length x33 : Int))) then (ae2 l v39).bind fun x43 => (ah4 x43.Mz 0).bind fun c44 => if (decide ((c44.toNat : Int) = 33)) then (ae2 l v39).bind fun x46 => some (.cont ((wrap .i64 (v39 + 1)),(set l (Int.toNat v39) {x46 with Value := secret}))) else some (.cont ((wrap .i64 (v39 + 1)),l)) else (aL0 v28 v29 l).map .done
def aL2 (a : aa2) (x_ : aO6) (v29 : (List (List aa1))) : Option Bool :=
  (aw4 {a with Kz := v29}).bind fun x49 => if (!x49) then (af2).bind fun x51 => some x51 else (aN4 a x_.Id).bind fun x52 => (aN4 {a with Kz := v29} x_.Id).bind fun x53 => (aV7 a x_.Id).bind fun x54 => (aV7 {a with Kz := v29} x_.Id).bind fun x55 => (aV5 a x_.Id x_.Mz).bind fun x56 => (aV5 {a with Kz := v29} x_.Id x_.Mz).bind fun x57 => (if (!(decide (x52.1.Type_ = x53.1.Type_) && (decide (x52.1.Dev = x53.1.Dev) && (decide (x52.1.Qid.Type_ = x53.1.Qid.Type_) && (decide (x52.1.Qid.Vers = x53.1.Qid.Vers) && (decide (x52.1.Qid.Path = x53.1.Qid.Path) && (decide (x52.1.Mode = x53.1.Mode) && (decide (x52.1.Atime = x53.1.Atime) && (decide (x52.1.Mtime = x53.1.Mtime) && (decide (x52.1.Length = x53.1.Length) && (decide (x52.1.Mz = x53.1.Mz) && (decide (x52.1.Uid = x53.1.Uid) && (decide (x52.1.Gid = x53.1.Gid) && (decide (x52.1.Muid = x53.1.Muid) && true)))))))))))))) then some true else if (!decide (x52.2 = x53.2)) then some true else (bl4 x54.1 x55.1).bind fun x60 => if (!x60) then some true else if (!decide (x54.2 = x55.2)) then some true else if (!decide (x56.1 = x57.1)) then some true else some (!decide (x56.2 = x57.2))).bind fun t64 => if t64 then some false else if (decide (16 < x_.Id)) then (af2).bind fun x67 => some x67 else (ai5 a x_.Id x_.Offset x_.Nz).bind fun x68 => (ai5 {a with Kz := v29} x_.Id x_.Offset x_.Nz).bind fun x69 => (if (decide (x68.2.1 = x69.2.1)) then if (decide (x68.2.2 = x69.2.2)) then (af2).bind fun x72 => some x72 else some false else some false).bind fun t73 => some t73
def aL3 (a : aa2) (secret : Str) (x_ : aO6) (v28 : Int) (v29 : (List (List aa1))) : Option (Step (Int × (List (List aa1))) Bool) :=
  if (decide (v28 < (length a.Kz : Int))) then (ae2 a.Kz v28).bind fun x32 => (aE5 40 ([] : List aa1) x32).bind fun x33 => ab1 (fun s => aL1 secret v28 v29 x33 s.1 s.2) (0,x33) else (aL2 a x_ v29).map .done
def a06 (a : aa2) (secret : Str) (x_ : aO6) : Option Bool :=
  (aA6 a).bind fun x1 => (if (!x1) then some true else if (decide (secret = [])) then some true else if (decide (20 < (length secret : Int))) then some true else if (decide (1000 < (length x_.Mz : Int))) then some true else (aw4 a).bind fun x6 => some (!x6)).bind fun t7 => if t7 then (af2).bind fun x9 => some x9 else ab1 (fun s => aL3 a secret x_ s.1 s.2) (0,([] : List (List aa1)))
end
end Go.Proofs.YtiliognepodhnaaGreatDoor
