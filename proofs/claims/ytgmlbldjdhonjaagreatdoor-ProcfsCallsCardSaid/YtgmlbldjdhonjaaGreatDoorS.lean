import Derived.Test.YtgmlbldjdhonjaaGreatDoorVmX
import Derived.Test.YtgmlbldjdhonjaaGreatDoorVmB
import Derived.Test.YtgmlbldjdhonjaaGreatDoorVmI
namespace Go.Proofs.YtgmlbldjdhonjaaGreatDoor
open Go.Vm
set_option autoImplicit false
set_option linter.unusedVariables false
set_option linter.unusedSimpArgs false
set_option maxRecDepth 100000
abbrev Str := List UInt8
structure api_Wait where
  Id : Int
  Status : Str
  deriving Inhabited
def zE1 (x : api_Wait) : PV := .agg [.int .i64 x.Id,.str x.Status]
structure api_Proc where
  Id : Int
  Parent : Int
  State : Int
  User : Str
  Name : Str
  Ns : Int
  Env : Int
  Fds : Int
  Cwd : Str
  Notes : (List Str)
  Status : Str
  Waits : (List api_Wait)
  Alone : Bool
  deriving Inhabited
def zE2 (x : api_Proc) : PV := .agg [.int .i64 x.Id,.int .i64 x.Parent,.int .i64 x.State,.str x.User,.str x.Name,.int .i64 x.Ns,.int .i64 x.Env,.int .i64 x.Fds,.str x.Cwd,.sl none (List.map PV.str x.Notes),.str x.Status,.sl (some 2) (List.map zE1 x.Waits),.bool x.Alone]
structure api_Procs where
  Next : Int
  Group : Int
  L : (List api_Proc)
  deriving Inhabited
def zE3 (x : api_Procs) : PV := .agg [.int .i64 x.Next,.int .i64 x.Group,.sl (some 13) (List.map zE2 x.L)]
structure law31_Op where
  Kind : Int
  User : Str
  Id : Int
  Offset : Int
  Count : Int
  Text : Str
  deriving Inhabited
def zE4 (x : law31_Op) : PV := .agg [.int .i64 x.Kind,.str x.User,.int .i64 x.Id,.int .i64 x.Offset,.int .i64 x.Count,.str x.Text]
structure law31_Out where
  N : Int
  Text : Str
  Blocked : Bool
  Err : Int
  deriving Inhabited
def zE5 (x : law31_Out) : PV := .agg [.int .i64 x.N,.str x.Text,.bool x.Blocked,.int .i64 x.Err]
noncomputable def law31_slight_L20 (x_ : api_Proc) (v19 : Int) : Option (Step Int Bool) :=
  if (decide (v19 < (List.length x_.Waits : Int))) then (lsAt x_.Waits v19).bind fun x22 => if (decide (2000 < (List.length x22.Status : Int))) then some (.done false) else some (.cont (IntKind.wrap .i64 (v19 + 1))) else some (.done true)
noncomputable def law31_slight_L12 (x_ : api_Proc) (v11 : Int) : Option (Step Int Bool) :=
  if (decide (v11 < (List.length x_.Notes : Int))) then (lsAt x_.Notes v11).bind fun x14 => if (decide (2000 < (List.length x14 : Int))) then some (.done false) else some (.cont (IntKind.wrap .i64 (v11 + 1))) else (loopM (fun s => law31_slight_L20 x_ s) 0).map .done
noncomputable def law31_slight (x_ : api_Proc) : Option Bool :=
  if ((decide (20 < (List.length x_.Notes : Int))) || ((decide (70 < (List.length x_.Waits : Int))) || ((decide (200 < (List.length x_.User : Int))) || ((decide (2000 < (List.length x_.Name : Int))) || ((decide (2000 < (List.length x_.Cwd : Int))) || (decide (2000 < (List.length x_.Status : Int)))))))) then some false else loopM (fun s => law31_slight_L12 x_ s) 0
noncomputable def law31_small_L7 (p : api_Procs) (v6 : Int) : Option (Step Int Bool) :=
  if (decide (v6 < (List.length p.L : Int))) then (lsAt p.L v6).bind fun x9 => (law31_slight x9).bind fun x10 => if (!x10) then some (.done false) else some (.cont (IntKind.wrap .i64 (v6 + 1))) else some (.done true)
noncomputable def law31_small (p : api_Procs) : Option Bool :=
  if (decide (70 < (List.length p.L : Int))) then some false else loopM (fun s => law31_small_L7 p s) 0
noncomputable def ref05_Valid_L12 (name : Str) (i : Int) : Option (Step Int Bool) :=
  if (decide (i < (List.length name : Int))) then (strAt name i).bind fun c14 => if ((!((decide (97 ≤ (c14.toNat : Int))) && (decide ((c14.toNat : Int) ≤ 122)))) && ((decide (i = 0)) || (bif (decide (48 ≤ (c14.toNat : Int))) then ((!(decide ((c14.toNat : Int) ≤ 57))) && ((!decide ((c14.toNat : Int) = 45)) && (!decide ((c14.toNat : Int) = 95)))) else ((!decide ((c14.toNat : Int) = 45)) && (!decide ((c14.toNat : Int) = 95)))))) then some (.done false) else some (.cont (IntKind.wrap .i64 (i + 1))) else some (.done true)
noncomputable def ref05_Valid (name : Str) : Option Bool :=
  if ((decide ((List.length name : Int) < 1)) || (decide (32 < (List.length name : Int)))) then some false else loopM (fun s => ref05_Valid_L12 name s) 0
noncomputable def ref03_Valid_L10 (name : Str) (i : Int) : Option (Step Int Bool) :=
  if (decide (i < (List.length name : Int))) then (strAt name i).bind fun c12 => (if (decide ((c12.toNat : Int) < 33)) then some true else (strAt name i).bind fun c14 => if (decide (126 < (c14.toNat : Int))) then some true else (strAt name i).bind fun c16 => some (decide ((c16.toNat : Int) = 47))).bind fun t17 => if t17 then some (.done false) else some (.cont (IntKind.wrap .i64 (i + 1))) else some (.done ((decide (1 ≤ (List.length name : Int))) && ((decide ((List.length name : Int) ≤ 64)) && ((!decide (name = [46])) && (!decide (name = [46,46]))))))
noncomputable def ref03_Valid (name : Str) : Option Bool :=
  loopM (fun s => ref03_Valid_L10 name s) 0
noncomputable def ref30_group (p : api_Procs) (n : Int) : Option Bool :=
  some ((decide (1 ≤ n)) && (decide (n < p.Group)))
noncomputable def ref03_Parts_L11 (p : Str) (from_ : Int) (i : Int) (out : (List Str)) : Option (Step (Int × Int × (List Str)) (List Str)) :=
  if (decide (i ≤ (List.length p : Int))) then (if (decide (i = (List.length p : Int))) then some true else (strAt p i).bind fun c14 => some (decide ((c14.toNat : Int) = 47))).bind fun t15 => if t15 then (cut p from_ i).bind fun x17 => (appL 16 out [x17]).bind fun x18 => some (.cont ((IntKind.wrap .i64 (i + 1)),(IntKind.wrap .i64 (i + 1)),x18)) else some (.cont (from_,(IntKind.wrap .i64 (i + 1)),out)) else some (.done out)
noncomputable def ref03_Parts (p : Str) : Option (List Str) :=
  loopM (fun s => ref03_Parts_L11 p s.1 s.2.1 s.2.2) (0,0,([] : List Str))
noncomputable def ref03_Rooted (p : Str) : Option Bool :=
  (if (decide (0 < (List.length p : Int))) then (strAt p 0).bind fun c2 => some (decide ((c2.toNat : Int) = 47)) else some false).bind fun t3 => some t3
noncomputable def ref03_Split_A71 (out : (List Str)) : Option ((List Str) × Int) :=
  if (decide (32 < (List.length out : Int))) then some (([] : List Str),4) else some (out,0)
noncomputable def ref03_Split_L49 (p : Str) (x2 : (List Str)) (i_1 : Int) (out : (List Str)) : Option (Step (Int × (List Str)) ((List Str) × Int)) :=
  if (decide (i_1 < (List.length x2 : Int))) then (lsAt x2 i_1).bind fun x51 => (if (decide (x51 = [])) then some true else (lsAt x2 i_1).bind fun x53 => some (decide (x53 = [46]))).bind fun t54 => if t54 then some (.cont ((IntKind.wrap .i64 (i_1 + 1)),out)) else (lsAt x2 i_1).bind fun x56 => (if (decide (x56 = [46,46])) then if (decide (0 < (List.length out : Int))) then (lsAt out (IntKind.wrap .i64 ((List.length out : Int) - 1))).bind fun x59 => some (!decide (x59 = [46,46])) else some false else some false).bind fun t60 => if t60 then (cut out 0 (IntKind.wrap .i64 ((List.length out : Int) - 1))).bind fun x62 => some (.cont ((IntKind.wrap .i64 (i_1 + 1)),x62)) else (lsAt x2 i_1).bind fun x63 => (if (decide (x63 = [46,46])) then (ref03_Rooted p).bind fun x65 => some x65 else some false).bind fun t66 => if t66 then some (.cont ((IntKind.wrap .i64 (i_1 + 1)),out)) else (lsAt x2 i_1).bind fun x68 => (appL 16 out [x68]).bind fun x69 => some (.cont ((IntKind.wrap .i64 (i_1 + 1)),x69)) else (ref03_Split_A71 out).map .done
noncomputable def ref03_Split_L15 (p : Str) (x2 : (List Str)) (i : Int) : Option (Step Int ((List Str) × Int)) :=
  if (decide (i < (List.length x2 : Int))) then (lsAt x2 i).bind fun x17 => (if (!decide (x17 = [])) then (lsAt x2 i).bind fun x19 => if (!decide (x19 = [46])) then (lsAt x2 i).bind fun x21 => if (!decide (x21 = [46,46])) then (lsAt x2 i).bind fun x23 => (ref03_Valid x23).bind fun x24 => some (!x24) else some false else some false else some false).bind fun t25 => if t25 then some (.done (([] : List Str),6)) else some (.cont (IntKind.wrap .i64 (i + 1))) else (loopM (fun s => ref03_Split_L49 p x2 s.1 s.2) (0,([] : List Str))).map .done
noncomputable def ref03_Split (p : Str) : Option ((List Str) × Int) :=
  if (decide (1024 < (List.length p : Int))) then some (([] : List Str),4) else (ref03_Parts p).bind fun x2 => loopM (fun s => ref03_Split_L15 p x2 s) 0
noncomputable def ref03_Build_K8 (l : (List Str)) (i : Int) (p9 : Str) : Option (Step (Str × Int) Str) :=
  (lsAt l i).bind fun x10 => (catS p9 x10).bind fun x11 => some (.cont (x11,(IntKind.wrap .i64 (i + 1))))
noncomputable def ref03_Build_A17 (rooted : Bool) (s_ : Str) : Option Str :=
  if rooted then (catS [47] s_).bind fun x15 => some x15 else if (decide (s_ = [])) then some [46] else some s_
noncomputable def ref03_Build_L6 (rooted : Bool) (l : (List Str)) (s_ : Str) (i : Int) : Option (Step (Str × Int) Str) :=
  if (decide (i < (List.length l : Int))) then if (decide (0 < i)) then (catS s_ [47]).bind fun x13 => ref03_Build_K8 l i x13 else ref03_Build_K8 l i s_ else (ref03_Build_A17 rooted s_).map .done
noncomputable def ref03_Build (rooted : Bool) (l : (List Str)) : Option Str :=
  loopM (fun s => ref03_Build_L6 rooted l s.1 s.2) ([],0)
noncomputable def ref03_Clean (p : Str) : Option (Str × Int) :=
  (ref03_Split p).bind fun x1 => if (!decide (x1.2 = 0)) then some ([],x1.2) else (ref03_Rooted p).bind fun x3 => (ref03_Build x3 x1.1).bind fun x4 => some (x4,0)
noncomputable def ref30_fields_L49 (p : api_Procs) (x_ : api_Proc) (i_1 : Int) : Option (Step Int Bool) :=
  if (decide (i_1 < (List.length x_.Waits : Int))) then (lsAt x_.Waits i_1).bind fun x51 => (if (decide (x51.Id < 1)) then some true else (lsAt x_.Waits i_1).bind fun x53 => if (decide (p.Next ≤ x53.Id)) then some true else (lsAt x_.Waits i_1).bind fun x55 => some (decide (1024 < (List.length x55.Status : Int)))).bind fun t56 => if t56 then some (.done false) else some (.cont (IntKind.wrap .i64 (i_1 + 1))) else some (.done true)
noncomputable def ref30_fields_L36 (p : api_Procs) (x_ : api_Proc) (i : Int) : Option (Step Int Bool) :=
  if (decide (i < (List.length x_.Notes : Int))) then (lsAt x_.Notes i).bind fun x38 => if (decide (1024 < (List.length x38 : Int))) then some (.done false) else some (.cont (IntKind.wrap .i64 (i + 1))) else (loopM (fun s => ref30_fields_L49 p x_ s) 0).map .done
noncomputable def ref30_fields (p : api_Procs) (x_ : api_Proc) : Option Bool :=
  if ((!decide (x_.State = 1)) && ((!decide (x_.State = 2)) && (!decide (x_.State = 3)))) then some false else (ref05_Valid x_.User).bind fun x5 => (if (!x5) then some true else if (!decide (x_.Name = [])) then (ref03_Valid x_.Name).bind fun x8 => if (!x8) then some true else (ref30_group p x_.Ns).bind fun x10 => if (!x10) then some true else (ref30_group p x_.Env).bind fun x12 => if (!x12) then some true else (ref30_group p x_.Fds).bind fun x14 => if (!x14) then some true else some (!decide (x_.Status = [])) else (ref30_group p x_.Ns).bind fun x16 => if (!x16) then some true else (ref30_group p x_.Env).bind fun x18 => if (!x18) then some true else (ref30_group p x_.Fds).bind fun x20 => if (!x20) then some true else some (!decide (x_.Status = []))).bind fun t22 => if t22 then some false else (ref03_Clean x_.Cwd).bind fun x24 => (if (!decide (x24.2 = 0)) then some true else if (!decide (x24.1 = x_.Cwd)) then some true else (ref03_Rooted x24.1).bind fun x27 => if (!x27) then some true else if (decide (8 < (List.length x_.Notes : Int))) then some true else some (decide (64 < (List.length x_.Waits : Int)))).bind fun t30 => if t30 then some false else loopM (fun s => ref30_fields_L36 p x_ s) 0
noncomputable def ref30_Right_A43 (p : api_Procs) (i : Int) (found : Bool) : Option (Step Int Bool) :=
  (if (!found) then some true else if (decide (0 < i)) then (lsAt p.L i).bind fun x39 => (lsAt p.L (IntKind.wrap .i64 (i - 1))).bind fun x40 => some (decide (x39.Id ≤ x40.Id)) else some false).bind fun t41 => if t41 then some (.done false) else some (.cont (IntKind.wrap .i64 (i + 1)))
noncomputable def ref30_Right_L31 (p : api_Procs) (i : Int) (found : Bool) (k : Int) : Option (Step (Bool × Int) (Step Int Bool)) :=
  if (decide (k < i)) then (if found then some true else (lsAt p.L k).bind fun x34 => (lsAt p.L i).bind fun x35 => some (decide (x34.Id = x35.Parent))).bind fun t36 => some (.cont (t36,(IntKind.wrap .i64 (k + 1)))) else (ref30_Right_A43 p i found).map .done
noncomputable def ref30_Right_L19 (p : api_Procs) (i : Int) : Option (Step Int Bool) :=
  if (decide (i < (List.length p.L : Int))) then (lsAt p.L i).bind fun x21 => (ref30_fields p x21).bind fun x22 => if (!x22) then some (.done false) else loopM (fun s => ref30_Right_L31 p i s.1 s.2) ((decide (i = 0)),0) else some (.done true)
noncomputable def ref30_Right (p : api_Procs) : Option Bool :=
  (if (decide ((List.length p.L : Int) < 1)) then some true else if (decide (64 < (List.length p.L : Int))) then some true else (lsAt p.L 0).bind fun x3 => if (!decide (x3.Id = 1)) then some true else (lsAt p.L 0).bind fun x5 => if (!decide (x5.Parent = 0)) then some true else (lsAt p.L (IntKind.wrap .i64 ((List.length p.L : Int) - 1))).bind fun x7 => if (decide (p.Next ≤ x7.Id)) then some true else if (decide (1048576 < p.Next)) then some true else if (decide (p.Group < 2)) then some true else some (decide (1099511627777 < p.Group))).bind fun t11 => if t11 then some false else loopM (fun s => ref30_Right_L19 p s) 0
noncomputable def user_Valid_L17 (name : Str) (v16 : Int) : Option (Step Int Bool) :=
  if (decide (v16 < (List.length name : Int))) then (strAt name v16).bind fun c19 => if ((!((decide (97 ≤ (c19.toNat : Int))) && (decide ((c19.toNat : Int) ≤ 122)))) && ((decide (v16 = 0)) || (!(bif (decide (48 ≤ (c19.toNat : Int))) then ((decide ((c19.toNat : Int) ≤ 57)) || ((decide ((c19.toNat : Int) = 45)) || (decide ((c19.toNat : Int) = 95)))) else ((decide ((c19.toNat : Int) = 45)) || (decide ((c19.toNat : Int) = 95))))))) then some (.done false) else some (.cont (IntKind.wrap .i64 (v16 + 1))) else some (.done true)
noncomputable def user_Valid (name : Str) : Option Bool :=
  if ((decide (name = [])) || (decide (32 < (List.length name : Int)))) then some false else loopM (fun s => user_Valid_L17 name s) 0
noncomputable def proc_New (name : Str) : Option (api_Procs × Int) :=
  (user_Valid name).bind fun x1 => if (!x1) then some ((api_Procs.mk 0 0 ([] : List api_Proc)),25) else some ((api_Procs.mk 2 2 [(api_Proc.mk 1 0 1 name [] 1 1 1 [47] ([] : List Str) [] ([] : List api_Wait) false)]),0)
noncomputable def num_known (base : Int) : Option Bool :=
  some ((decide (base = 8)) || ((decide (base = 10)) || (decide (base = 16))))
noncomputable def strconv_FormatInt (a0 : Int) (a1 : Int) : Option Str := xFormatInt a0 a1
noncomputable def num_Text (n : Int) (base : Int) : Option Str :=
  (num_known base).bind fun x1 => if (!x1) then some [] else (strconv_FormatInt n base).bind fun x3 => some x3
noncomputable def procfs_Status_K1 (p : api_Proc) (p2 : Str) : Option Str :=
  (catS p.Name [32]).bind fun x3 => (catS x3 p.User).bind fun x4 => (catS x4 [32]).bind fun x5 => (catS x5 p2).bind fun x6 => (catS x6 [32]).bind fun x7 => (num_Text p.Parent 10).bind fun x8 => (catS x7 x8).bind fun x9 => (catS x9 [10]).bind fun x10 => some x10
noncomputable def procfs_Status (p : api_Proc) : Option Str :=
  if (decide (p.State = 1)) then procfs_Status_K1 p [114,101,97,100,121] else if (decide (p.State = 2)) then procfs_Status_K1 p [115,116,111,112,112,101,100] else if (decide (p.State = 3)) then procfs_Status_K1 p [98,114,111,107,101,110] else if (decide (p.State = 4)) then procfs_Status_K1 p [103,111,110,101] else procfs_Status_K1 p [117,110,107,110,111,119,110]
noncomputable def proc_index_1 (x_ : api_Proc) (a1 : Int) : Option Bool :=
  some (decide (x_.Id = a1))
noncomputable def slices_IndexFunc_api_Proc_api_Proc_f86_L6 (s_ : (List api_Proc)) (f : Int) (v5 : Int) : Option (Step Int Int) :=
  if (decide (v5 < (List.length s_ : Int))) then (lsAt s_ v5).bind fun x8 => (proc_index_1 x8 f).bind fun x9 => if x9 then some (.done v5) else some (.cont (IntKind.wrap .i64 (v5 + 1))) else some (.done (-1))
noncomputable def slices_IndexFunc_api_Proc_api_Proc_f86 (s_ : (List api_Proc)) (f : Int) : Option Int :=
  loopM (fun s => slices_IndexFunc_api_Proc_api_Proc_f86_L6 s_ f s) 0
noncomputable def proc_index (p : api_Procs) (id : Int) : Option Int :=
  (slices_IndexFunc_api_Proc_api_Proc_f86 p.L id).bind fun x1 => some x1
noncomputable def slices_Clone_string_string_n : Option (List Str) :=
  some ([] : List Str)
noncomputable def slices_Clone_string_string_e : Option (List Str) :=
  (appL 16 ([] : List Str) []).bind fun x1 => some x1
noncomputable def slices_Clone_string_string (s_ : (List Str)) : Option (List Str) :=
  (appL 16 ([] : List Str) s_).bind fun x1 => some x1
noncomputable def slices_Clone_api_Wait_api_Wait_n : Option (List api_Wait) :=
  some ([] : List api_Wait)
noncomputable def slices_Clone_api_Wait_api_Wait_e : Option (List api_Wait) :=
  (appL 24 ([] : List api_Wait) []).bind fun x1 => some x1
noncomputable def slices_Clone_api_Wait_api_Wait (s_ : (List api_Wait)) : Option (List api_Wait) :=
  (appL 24 ([] : List api_Wait) s_).bind fun x1 => some x1
noncomputable def proc_clone (x_ : api_Proc) : Option api_Proc :=
  (slices_Clone_string_string x_.Notes).bind fun x1 => (slices_Clone_api_Wait_api_Wait x_.Waits).bind fun x2 => some (api_Proc.mk x_.Id x_.Parent x_.State x_.User x_.Name x_.Ns x_.Env x_.Fds x_.Cwd x1 x_.Status x2 x_.Alone)
noncomputable def proc_Find (p : api_Procs) (id : Int) : Option (api_Proc × Bool) :=
  (proc_index p id).bind fun x1 => if (decide (x1 < 0)) then some ((api_Proc.mk 0 0 0 [] [] 0 0 0 [] ([] : List Str) [] ([] : List api_Wait) false),false) else (lsAt p.L x1).bind fun x3 => (proc_clone x3).bind fun x4 => some (x4,true)
noncomputable def slices_Clone_api_Proc_api_Proc_n : Option (List api_Proc) :=
  some ([] : List api_Proc)
noncomputable def slices_Clone_api_Proc_api_Proc_e : Option (List api_Proc) :=
  (appL 168 ([] : List api_Proc) []).bind fun x1 => some x1
noncomputable def slices_Clone_api_Proc_api_Proc (s_ : (List api_Proc)) : Option (List api_Proc) :=
  (appL 168 ([] : List api_Proc) s_).bind fun x1 => some x1
noncomputable def procfs_copied_L11 (p : api_Procs) (x1 : (List api_Proc)) (v9 : Int) (v10 : (List api_Proc)) : Option (Step (Int × (List api_Proc)) api_Procs) :=
  if (decide (v9 < (List.length x1 : Int))) then (lsAt v10 v9).bind fun x13 => (slices_Clone_string_string x13.Notes).bind fun x14 => (lsAt v10 v9).bind fun x15 => (lsAt (List.set v10 (Int.toNat v9) (api_Proc.mk x15.Id x15.Parent x15.State x15.User x15.Name x15.Ns x15.Env x15.Fds x15.Cwd x14 x15.Status x15.Waits x15.Alone)) v9).bind fun x16 => (slices_Clone_api_Wait_api_Wait x16.Waits).bind fun x17 => (lsAt (List.set v10 (Int.toNat v9) (api_Proc.mk x15.Id x15.Parent x15.State x15.User x15.Name x15.Ns x15.Env x15.Fds x15.Cwd x14 x15.Status x15.Waits x15.Alone)) v9).bind fun x18 => some (.cont ((IntKind.wrap .i64 (v9 + 1)),(List.set (List.set v10 (Int.toNat v9) (api_Proc.mk x15.Id x15.Parent x15.State x15.User x15.Name x15.Ns x15.Env x15.Fds x15.Cwd x14 x15.Status x15.Waits x15.Alone)) (Int.toNat v9) (api_Proc.mk x18.Id x18.Parent x18.State x18.User x18.Name x18.Ns x18.Env x18.Fds x18.Cwd x18.Notes x18.Status x17 x18.Alone)))) else some (.done (api_Procs.mk p.Next p.Group v10))
noncomputable def procfs_copied (p : api_Procs) : Option api_Procs :=
  (slices_Clone_api_Proc_api_Proc p.L).bind fun x1 => loopM (fun s => procfs_copied_L11 p x1 s.1 s.2) (0,x1)
noncomputable def num_Fields_K29 (s_ : Str) (from_ : Int) (v24 : Int) (out : (List Str)) (p30 : Bool) : Option (Step (Int × Int × (List Str)) (List Str)) :=
  if p30 then if (decide (0 ≤ from_)) then (cut s_ from_ v24).bind fun x33 => (appL 16 out [x33]).bind fun x34 => some (.cont ((-1),(IntKind.wrap .i64 (v24 + 1)),x34)) else some (.cont ((-1),(IntKind.wrap .i64 (v24 + 1)),out)) else if (decide (from_ < 0)) then some (.cont (v24,(IntKind.wrap .i64 (v24 + 1)),out)) else some (.cont (from_,(IntKind.wrap .i64 (v24 + 1)),out))
noncomputable def num_Fields_A42 (s_ : Str) (from_ : Int) (out : (List Str)) : Option (List Str) :=
  if (decide (0 ≤ from_)) then (cut s_ from_ (List.length s_ : Int)).bind fun x40 => (appL 16 out [x40]).bind fun x41 => some x41 else some out
noncomputable def num_Fields_L26 (s_ : Str) (from_ : Int) (v24 : Int) (out : (List Str)) : Option (Step (Int × Int × (List Str)) (List Str)) :=
  if (decide (v24 < (List.length s_ : Int))) then (strAt s_ v24).bind fun c28 => if (decide ((c28.toNat : Int) = 32)) then num_Fields_K29 s_ from_ v24 out (decide ((c28.toNat : Int) = 32)) else if (decide ((c28.toNat : Int) = 9)) then num_Fields_K29 s_ from_ v24 out (decide ((c28.toNat : Int) = 9)) else if (decide ((c28.toNat : Int) = 10)) then num_Fields_K29 s_ from_ v24 out (decide ((c28.toNat : Int) = 10)) else num_Fields_K29 s_ from_ v24 out (decide ((c28.toNat : Int) = 13)) else (num_Fields_A42 s_ from_ out).map .done
noncomputable def num_Fields (s_ : Str) : Option (List Str) :=
  loopM (fun s => num_Fields_L26 s_ s.1 s.2.1 s.2.2) ((-1),0,([] : List Str))
noncomputable def proc_own_L8 (p : api_Procs) (v6 : Int) (l : (List api_Proc)) : Option (Step (Int × (List api_Proc)) api_Procs) :=
  if (decide (v6 < (List.length p.L : Int))) then (lsAt p.L v6).bind fun x10 => (proc_clone x10).bind fun x11 => (lsAt l v6).bind fun x12 => some (.cont ((IntKind.wrap .i64 (v6 + 1)),(List.set l (Int.toNat v6) x11))) else some (.done (api_Procs.mk p.Next p.Group l))
noncomputable def proc_own (p : api_Procs) : Option api_Procs :=
  (mkC 168 ((api_Proc.mk 0 0 0 [] [] 0 0 0 [] [] [] [] false) : api_Proc) (List.length p.L : Int) (List.length p.L : Int)).bind fun x1 => loopM (fun s => proc_own_L8 p s.1 s.2) (0,x1)
noncomputable def proc_state (n : Int) : Option Bool :=
  some ((decide (n = 1)) || ((decide (n = 2)) || (decide (n = 3))))
noncomputable def proc_Set (p : api_Procs) (id : Int) (n : Int) : Option (api_Procs × Int) :=
  (proc_own p).bind fun x1 => (proc_index x1 id).bind fun x2 => if (decide (x2 < 0)) then some (x1,42) else (proc_state n).bind fun x4 => if (!x4) then some (x1,1) else (lsAt x1.L x2).bind fun x6 => some ((api_Procs.mk x1.Next x1.Group (List.set x1.L (Int.toNat x2) (api_Proc.mk x6.Id x6.Parent n x6.User x6.Name x6.Ns x6.Env x6.Fds x6.Cwd x6.Notes x6.Status x6.Waits x6.Alone))),0)
noncomputable def proc_short (s_ : Str) : Option Bool :=
  some (decide ((List.length s_ : Int) ≤ 1024))
noncomputable def slices_Delete_api_Proc_api_Proc_o (s : (List api_Proc)) (i j : Int) : Option (List api_Proc) := delL s i j
noncomputable def proc_Exit_L17 (id : Int) (x1 : api_Procs) (x10 : (List api_Proc)) (v15 : Int) (v16 : (List api_Proc)) : Option (Step (Int × (List api_Proc)) (api_Procs × Int)) :=
  if (decide (v15 < (List.length x10 : Int))) then (lsAt v16 v15).bind fun x19 => if (decide (x19.Parent = id)) then (lsAt v16 v15).bind fun x21 => some (.cont ((IntKind.wrap .i64 (v15 + 1)),(List.set v16 (Int.toNat v15) (api_Proc.mk x21.Id 1 x21.State x21.User x21.Name x21.Ns x21.Env x21.Fds x21.Cwd x21.Notes x21.Status x21.Waits x21.Alone)))) else some (.cont ((IntKind.wrap .i64 (v15 + 1)),v16)) else some (.done ((api_Procs.mk x1.Next x1.Group v16),0))
noncomputable def proc_Exit_K8 (id : Int) (x1 : api_Procs) (x2 : Int) (p9 : (List api_Proc)) : Option (api_Procs × Int) :=
  (slices_Delete_api_Proc_api_Proc_o p9 x2 (IntKind.wrap .i64 (x2 + 1))).bind fun x10 => loopM (fun s => proc_Exit_L17 id x1 x10 s.1 s.2) (0,x10)
noncomputable def proc_Exit (p : api_Procs) (id : Int) (status : Str) : Option (api_Procs × Int) :=
  (proc_own p).bind fun x1 => (proc_index x1 id).bind fun x2 => if (decide (x2 < 0)) then some (x1,42) else if (decide (id = 1)) then some (x1,43) else (proc_short status).bind fun x5 => if (!x5) then some (x1,4) else (lsAt x1.L x2).bind fun x7 => (proc_index x1 x7.Parent).bind fun x22 => (if (decide (0 ≤ x22)) then if (!x7.Alone) then (lsAt x1.L x22).bind fun x25 => some (decide ((List.length x25.Waits : Int) < 64)) else some false else some false).bind fun t26 => if t26 then (lsAt x1.L x22).bind fun x28 => (appL 24 x28.Waits [(api_Wait.mk id status)]).bind fun x29 => (lsAt x1.L x22).bind fun x30 => proc_Exit_K8 id x1 x2 (List.set x1.L (Int.toNat x22) (api_Proc.mk x30.Id x30.Parent x30.State x30.User x30.Name x30.Ns x30.Env x30.Fds x30.Cwd x30.Notes x30.Status x29 x30.Alone)) else proc_Exit_K8 id x1 x2 x1.L
noncomputable def procfs_Control_K10 (p : api_Procs) (p11 : Int) (p12 : Int) (p13 : Int) (p14 : (List api_Proc)) : Option (api_Procs × Int) :=
  if (!decide (p11 = 0)) then (procfs_copied p).bind fun x16 => some (x16,p11) else some ((api_Procs.mk p12 p13 p14),0)
noncomputable def procfs_Control (p : api_Procs) (user : Str) (id : Int) (line : Str) : Option (api_Procs × Int) :=
  (proc_Find p id).bind fun x1 => if (!x1.2) then (procfs_copied p).bind fun x3 => some (x3,42) else if (!decide (x1.1.User = user)) then (procfs_copied p).bind fun x5 => some (x5,11) else (num_Fields line).bind fun x6 => if (!decide ((List.length x6 : Int) = 1)) then (procfs_copied p).bind fun x8 => some (x8,54) else (procfs_copied p).bind fun x9 => (lsAt x6 0).bind fun x17 => if (decide (x17 = [115,116,111,112])) then (proc_Set p id 2).bind fun x19 => procfs_Control_K10 p x19.2 x19.1.Next x19.1.Group x19.1.L else if (decide (x17 = [115,116,97,114,116])) then (proc_Set p id 1).bind fun x21 => procfs_Control_K10 p x21.2 x21.1.Next x21.1.Group x21.1.L else if (decide (x17 = [107,105,108,108])) then (proc_Exit p id [107,105,108,108,101,100]).bind fun x23 => procfs_Control_K10 p x23.2 x23.1.Next x23.1.Group x23.1.L else procfs_Control_K10 p 54 x9.Next x9.Group x9.L
noncomputable def procfs_file (p : api_Procs) (id : Int) : Option (api_Proc × Int × Bool) :=
  if (decide (id = 1)) then some ((api_Proc.mk 0 0 0 [] [] 0 0 0 [] ([] : List Str) [] ([] : List api_Wait) false),0,true) else if ((decide (id < 16)) || (decide (5 < (Int.tmod id 16)))) then some ((api_Proc.mk 0 0 0 [] [] 0 0 0 [] ([] : List Str) [] ([] : List api_Wait) false),0,false) else (proc_Find p (IntKind.wrap .i64 (Int.tdiv id 16))).bind fun x5 => some (x5.1,(Int.tmod id 16),x5.2)
noncomputable def stringslite_HasSuffix (s_ : Str) (suffix : Str) : Option Bool :=
  (if (decide ((List.length suffix : Int) ≤ (List.length s_ : Int))) then (cut s_ (IntKind.wrap .i64 ((List.length s_ : Int) - (List.length suffix : Int))) (List.length s_ : Int)).bind fun x2 => some (decide (x2 = suffix)) else some false).bind fun t3 => some t3
noncomputable def stringslite_TrimSuffix (s_ : Str) (suffix : Str) : Option Str :=
  (stringslite_HasSuffix s_ suffix).bind fun x1 => if x1 then (cut s_ 0 (IntKind.wrap .i64 ((List.length s_ : Int) - (List.length suffix : Int)))).bind fun x3 => some x3 else some s_
noncomputable def strings_TrimSuffix (s_ : Str) (suffix : Str) : Option Str :=
  (stringslite_TrimSuffix s_ suffix).bind fun x1 => some x1
noncomputable def proc_Note (p : api_Procs) (id : Int) (note : Str) : Option (api_Procs × Int) :=
  (proc_own p).bind fun x1 => (proc_index x1 id).bind fun x2 => if (decide (x2 < 0)) then some (x1,42) else (proc_short note).bind fun x4 => if (!x4) then some (x1,4) else (lsAt x1.L x2).bind fun x6 => if (decide (8 ≤ (List.length x6.Notes : Int))) then some (x1,22) else (lsAt x1.L x2).bind fun x8 => (appL 16 x8.Notes [note]).bind fun x9 => (lsAt x1.L x2).bind fun x10 => some ((api_Procs.mk x1.Next x1.Group (List.set x1.L (Int.toNat x2) (api_Proc.mk x10.Id x10.Parent x10.State x10.User x10.Name x10.Ns x10.Env x10.Fds x10.Cwd x9 x10.Status x10.Waits x10.Alone))),0)
noncomputable def procfs_Write_K8 (p : api_Procs) (data : Str) (p9 : Int) (p10 : Int) (p11 : Int) (p12 : (List api_Proc)) : Option (api_Procs × Int × Int) :=
  if (!decide (p9 = 0)) then (procfs_copied p).bind fun x14 => some (x14,0,p9) else some ((api_Procs.mk p10 p11 p12),(List.length data : Int),0)
noncomputable def procfs_Write (p : api_Procs) (user : Str) (id : Int) (data : Str) : Option (api_Procs × Int × Int) :=
  (procfs_file p id).bind fun x1 => if (!x1.2.2) then (procfs_copied p).bind fun x3 => some (x3,0,8) else if (decide (x1.2.1 = 0)) then (procfs_copied p).bind fun x5 => some (x5,0,10) else (strings_TrimSuffix data [10]).bind fun x6 => (procfs_copied p).bind fun x7 => if (decide (x1.2.1 = 1)) then (procfs_Control p user x1.1.Id x6).bind fun x16 => procfs_Write_K8 p data x16.2 x16.1.Next x16.1.Group x16.1.L else if ((decide (x1.2.1 = 3)) && (decide (x1.1.User = user))) then (proc_Note p x1.1.Id x6).bind fun x20 => procfs_Write_K8 p data x20.2 x20.1.Next x20.1.Group x20.1.L else procfs_Write_K8 p data 11 x7.Next x7.Group x7.L
noncomputable def procfs_children_L5 (id : Int) (part : Int) (out : (List Int)) : Option (Step (Int × (List Int)) (List Int)) :=
  if (decide (part ≤ 5)) then (appL 8 out [(IntKind.wrap .i64 (id + part))]).bind fun x7 => some (.cont ((IntKind.wrap .i64 (part + 1)),x7)) else some (.done out)
noncomputable def procfs_children_L13 (p : api_Procs) (v11 : Int) (out_1 : (List Int)) : Option (Step (Int × (List Int)) (List Int)) :=
  if (decide (v11 < (List.length p.L : Int))) then (lsAt p.L v11).bind fun x15 => (appL 8 out_1 [(IntKind.wrap .i64 (16 * x15.Id))]).bind fun x16 => some (.cont ((IntKind.wrap .i64 (v11 + 1)),x16)) else some (.done out_1)
noncomputable def procfs_children (p : api_Procs) (id : Int) : Option (List Int) :=
  if (!decide (id = 1)) then loopM (fun s => procfs_children_L5 id s.1 s.2) (1,([] : List Int)) else loopM (fun s => procfs_children_L13 p s.1 s.2) (0,([] : List Int))
noncomputable def procfs_name (id : Int) : Option Str :=
  if (decide (id = 1)) then some [47] else if (decide ((Int.tmod id 16) = 1)) then some [99,116,108] else if (decide ((Int.tmod id 16) = 2)) then some [115,116,97,116,117,115] else if (decide ((Int.tmod id 16) = 3)) then some [110,111,116,101] else if (decide ((Int.tmod id 16) = 4)) then some [119,97,105,116] else if (decide ((Int.tmod id 16) = 5)) then some [99,119,100] else (num_Text (IntKind.wrap .i64 (Int.tdiv id 16)) 10).bind fun x7 => some x7
noncomputable def procfs_Walk_L11 (s_ : Str) (x5 : (List Int)) (v10 : Int) : Option (Step Int (Int × Int)) :=
  if (decide (v10 < (List.length x5 : Int))) then (lsAt x5 v10).bind fun x13 => (procfs_name x13).bind fun x14 => if (decide (x14 = s_)) then some (.done (x13,0)) else some (.cont (IntKind.wrap .i64 (v10 + 1))) else some (.done (0,8))
noncomputable def procfs_Walk (p : api_Procs) (id : Int) (s_ : Str) : Option (Int × Int) :=
  (procfs_file p id).bind fun x1 => if (!x1.2.2) then some (0,8) else if (!decide (x1.2.1 = 0)) then some (0,9) else if (decide (s_ = [46,46])) then some (1,0) else (procfs_children p id).bind fun x5 => loopM (fun s => procfs_Walk_L11 s_ x5 s) 0
noncomputable def perm_has (mode : Int) (bit : Int) : Option Bool :=
  (if (decide (0 ≤ mode)) then (quoI .i64 mode bit).bind fun x2 => some (decide ((Int.tmod x2 2) = 1)) else some false).bind fun t3 => some t3
noncomputable def perm_Open_K3 (mode : Int) (p4 : Int) : Option (Int × Int) :=
  if ((decide (p4 < 0)) || (decide (3 < p4))) then some (0,12) else (lsAt [4,2,6,1] p4).bind fun x8 => (perm_has mode 16).bind fun x9 => if x9 then some ((IntKind.wrap .i64 ((BitVec.ofInt (IntKind.bits .i64) x8 ||| (BitVec.ofInt (IntKind.bits .i64) 2)).toNat : Nat)),0) else some (x8,0)
noncomputable def perm_Open_K1 (mode : Int) (p2 : Int) : Option (Int × Int) :=
  (perm_has mode 64).bind fun x11 => if x11 then perm_Open_K3 mode (IntKind.wrap .i64 (p2 - 64)) else perm_Open_K3 mode p2
noncomputable def perm_Open (mode : Int) : Option (Int × Int) :=
  (perm_has mode 16).bind fun x13 => if x13 then perm_Open_K1 mode (IntKind.wrap .i64 (mode - 16)) else perm_Open_K1 mode mode
noncomputable def procfs_mode_K2 (part : Int) (p3 : Bool) : Option Int :=
  if p3 then some 128 else if (decide (part = 4)) then some 256 else some 292
noncomputable def procfs_mode (part : Int) : Option Int :=
  if (decide (part = 0)) then some 2147484013 else if (decide (part = 1)) then procfs_mode_K2 part (decide (part = 1)) else procfs_mode_K2 part (decide (part = 3))
noncomputable def procfs_Open_K9 (how : Int) (x3 : (Int × Int)) (p10 : Int) : Option Int :=
  if ((decide (64 ≤ how)) || (!decide ((IntKind.wrap .i64 ((BitVec.ofInt (IntKind.bits .i64) x3.1 &&& ~~~ (BitVec.ofInt (IntKind.bits .i64) p10)).toNat : Nat)) = 0))) then some 11 else some 0
noncomputable def procfs_Open (p : api_Procs) (user : Str) (id : Int) (how : Int) : Option Int :=
  (procfs_file p id).bind fun x1 => if (!x1.2.2) then some 8 else (perm_Open how).bind fun x3 => if (!decide (x3.2 = 0)) then some x3.2 else if ((decide (x1.2.1 = 0)) && (!decide (how = 0))) then some 10 else (procfs_mode x1.2.1).bind fun x8 => if (decide (user = x1.1.User)) then (procfs_mode x1.2.1).bind fun x15 => procfs_Open_K9 how x3 (Int.tmod (IntKind.wrap .i64 (Int.tdiv x15 64)) 8) else procfs_Open_K9 how x3 (Int.tmod x8 8)
noncomputable def law31_awake : Option Bool :=
  (proc_New [97,110,110]).bind fun x1 => if (!decide (x1.2 = 0)) then some false else (procfs_Status (api_Proc.mk 0 1 2 [97,110,110] [114,99] 0 0 0 [] [] [] [] false)).bind fun x3 => if (!decide (x3 = [114,99,32,97,110,110,32,115,116,111,112,112,101,100,32,49,10])) then some false else (procfs_Control x1.1 [98,111,98] 1 [115,116,111,112]).bind fun x5 => if (!decide (x5.2 = 11)) then some false else (procfs_Control x1.1 [97,110,110] 1 [115,116,111,112]).bind fun x7 => (if (!decide (x7.2 = 0)) then some true else if (!decide ((List.length x7.1.L : Int) = 1)) then some true else (lsAt x7.1.L 0).bind fun x10 => some (!decide (x10.State = 2))).bind fun t11 => if t11 then some false else (procfs_Write x7.1 [97,110,110] 17 [115,116,97,114,116,10]).bind fun x13 => (procfs_Walk x1.1 1 [49]).bind fun x14 => (if (decide (x13.2.1 = 6)) then if (decide (x13.2.2 = 0)) then if (decide ((List.length x13.1.L : Int) = 1)) then (lsAt x13.1.L 0).bind fun x18 => if (decide (x18.State = 1)) then if (decide (x14.1 = 16)) then if (decide (x14.2 = 0)) then (procfs_Open x1.1 [98,111,98] 18 0).bind fun x22 => if (decide (x22 = 0)) then (procfs_Open x1.1 [98,111,98] 17 1).bind fun x24 => some (decide (x24 = 11)) else some false else some false else some false else some false else some false else some false else some false).bind fun t25 => some t25
noncomputable def procfs_slice (s_ : Str) (offset : Int) (count : Int) : Option Str :=
  if (decide ((List.length s_ : Int) ≤ offset)) then some [] else (cut s_ offset (IntKind.wrap .i64 (offset + (min count (IntKind.wrap .i64 ((List.length s_ : Int) - offset)))))).bind fun x2 => some x2
noncomputable def proc_Await_1 (x_ : api_Proc) (a1 : Int) : Option Bool :=
  some ((decide (x_.Parent = a1)) && (!x_.Alone))
noncomputable def slices_IndexFunc_api_Proc_api_Proc_f77_L6 (s_ : (List api_Proc)) (f : Int) (v5 : Int) : Option (Step Int Int) :=
  if (decide (v5 < (List.length s_ : Int))) then (lsAt s_ v5).bind fun x8 => (proc_Await_1 x8 f).bind fun x9 => if x9 then some (.done v5) else some (.cont (IntKind.wrap .i64 (v5 + 1))) else some (.done (-1))
noncomputable def slices_IndexFunc_api_Proc_api_Proc_f77 (s_ : (List api_Proc)) (f : Int) : Option Int :=
  loopM (fun s => slices_IndexFunc_api_Proc_api_Proc_f77_L6 s_ f s) 0
noncomputable def slices_ContainsFunc_api_Proc_api_Proc_f77 (s_ : (List api_Proc)) (f : Int) : Option Bool :=
  (slices_IndexFunc_api_Proc_api_Proc_f77 s_ f).bind fun x1 => some (decide (0 ≤ x1))
noncomputable def proc_Await (p : api_Procs) (id : Int) : Option (api_Procs × api_Wait × Bool × Int) :=
  (proc_own p).bind fun x1 => (proc_index x1 id).bind fun x2 => if (decide (x2 < 0)) then some (x1,(api_Wait.mk 0 []),false,42) else (lsAt x1.L x2).bind fun x4 => if (decide (0 < (List.length x4.Waits : Int))) then (cut x4.Waits 1 (List.length x4.Waits : Int)).bind fun x6 => (lsAt x1.L x2).bind fun x7 => (lsAt x4.Waits 0).bind fun x8 => some ((api_Procs.mk x1.Next x1.Group (List.set x1.L (Int.toNat x2) (api_Proc.mk x7.Id x7.Parent x7.State x7.User x7.Name x7.Ns x7.Env x7.Fds x7.Cwd x7.Notes x7.Status x6 x7.Alone))),x8,false,0) else (slices_ContainsFunc_api_Proc_api_Proc_f77 x1.L id).bind fun x9 => if x9 then some (x1,(api_Wait.mk 0 []),true,0) else some (x1,(api_Wait.mk 0 []),false,42)
noncomputable def procfs_Read (p : api_Procs) (id : Int) (offset : Int) (count : Int) : Option (api_Procs × Str × Bool × Int) :=
  (procfs_file p id).bind fun x1 => if (!x1.2.2) then (procfs_copied p).bind fun x3 => some (x3,[],false,8) else if (decide (x1.2.1 = 0)) then (procfs_copied p).bind fun x5 => some (x5,[],false,10) else if ((decide (offset < 0)) || (decide (count < 0))) then (procfs_copied p).bind fun x9 => some (x9,[],false,1) else if (decide (x1.2.1 = 2)) then (procfs_copied p).bind fun x11 => (procfs_Status x1.1).bind fun x12 => (procfs_slice x12 offset (min count 65536)).bind fun x13 => some (x11,x13,false,0) else if (decide (x1.2.1 = 5)) then (procfs_copied p).bind fun x15 => (procfs_slice x1.1.Cwd offset (min count 65536)).bind fun x16 => some (x15,x16,false,0) else if (decide (x1.2.1 = 4)) then (proc_Await p x1.1.Id).bind fun x18 => if ((!decide (x18.2.2.2 = 0)) || x18.2.2.1) then (procfs_copied p).bind fun x22 => some (x22,[],(x18.2.2.1 && (decide (x18.2.2.2 = 0))),x18.2.2.2) else (num_Text x18.2.1.Id 10).bind fun x25 => (catS x25 [32]).bind fun x26 => (catS x26 x18.2.1.Status).bind fun x27 => (catS x27 [10]).bind fun x28 => (procfs_slice x28 0 (min count 65536)).bind fun x29 => some (x18.1,x29,false,0) else (procfs_copied p).bind fun x30 => some (x30,[],false,0)
noncomputable def law31_did_K1 (p2 : api_Procs) (p3 : law31_Out) : Option (api_Procs × law31_Out) :=
  some (p2,p3)
noncomputable def law31_did (p : api_Procs) (o : law31_Op) : Option (api_Procs × law31_Out) :=
  if (decide (o.Kind = 1)) then (procfs_Control p o.User o.Id o.Text).bind fun x5 => law31_did_K1 x5.1 (law31_Out.mk 0 [] false x5.2) else if (decide (o.Kind = 2)) then (procfs_Read p o.Id o.Offset o.Count).bind fun x7 => law31_did_K1 x7.1 (law31_Out.mk 0 x7.2.1 x7.2.2.1 x7.2.2.2) else if (decide (o.Kind = 3)) then (procfs_Write p o.User o.Id o.Text).bind fun x9 => law31_did_K1 x9.1 (law31_Out.mk x9.2.1 [] false x9.2.2) else law31_did_K1 p (law31_Out.mk 0 [] false 0)
noncomputable def ref30_index_L5 (p : api_Procs) (id : Int) (i : Int) : Option (Step Int Int) :=
  if (decide (i < (List.length p.L : Int))) then (lsAt p.L i).bind fun x7 => if (decide (x7.Id = id)) then some (.done i) else some (.cont (IntKind.wrap .i64 (i + 1))) else some (.done (-1))
noncomputable def ref30_index (p : api_Procs) (id : Int) : Option Int :=
  loopM (fun s => ref30_index_L5 p id s) 0
noncomputable def ref30_Find (p : api_Procs) (id : Int) : Option (api_Proc × Bool) :=
  (ref30_index p id).bind fun x1 => if (decide (x1 < 0)) then some ((api_Proc.mk 0 0 0 [] [] 0 0 0 [] ([] : List Str) [] ([] : List api_Wait) false),false) else (lsAt p.L x1).bind fun x3 => some (x3,true)
noncomputable def ref01_Separator (c : Int) : Option Bool :=
  some ((decide (c = 32)) || ((decide (c = 9)) || ((decide (c = 10)) || (decide (c = 13)))))
noncomputable def ref01_Fields_L21 (s_ : Str) (from_ : Int) (i : Int) (out : (List Str)) : Option (Step (Int × Int × (List Str)) (List Str)) :=
  if (decide (i ≤ (List.length s_ : Int))) then (if (decide (i < (List.length s_ : Int))) then (strAt s_ i).bind fun c24 => (ref01_Separator (c24.toNat : Int)).bind fun x25 => some (!x25) else some false).bind fun t26 => if t26 then some (.cont (from_,(IntKind.wrap .i64 (i + 1)),out)) else if (decide (from_ < i)) then (cut s_ from_ i).bind fun x29 => (appL 16 out [x29]).bind fun x30 => some (.cont ((IntKind.wrap .i64 (i + 1)),(IntKind.wrap .i64 (i + 1)),x30)) else some (.cont ((IntKind.wrap .i64 (i + 1)),(IntKind.wrap .i64 (i + 1)),out)) else some (.done out)
noncomputable def ref01_Fields (s_ : Str) : Option (List Str) :=
  loopM (fun s => ref01_Fields_L21 s_ s.1 s.2.1 s.2.2) (0,0,([] : List Str))
noncomputable def ref30_with_L9 (p : api_Procs) (x_ : api_Proc) (i : Int) (v8 : (List api_Proc)) : Option (Step (Int × (List api_Proc)) api_Procs) :=
  if (decide (i < (List.length p.L : Int))) then (lsAt p.L i).bind fun x11 => if (decide (x11.Id = x_.Id)) then (appL 168 v8 [x_]).bind fun x13 => some (.cont ((IntKind.wrap .i64 (i + 1)),x13)) else (lsAt p.L i).bind fun x14 => (appL 168 v8 [x14]).bind fun x15 => some (.cont ((IntKind.wrap .i64 (i + 1)),x15)) else some (.done (api_Procs.mk p.Next p.Group v8))
noncomputable def ref30_with (p : api_Procs) (x_ : api_Proc) : Option api_Procs :=
  loopM (fun s => ref30_with_L9 p x_ s.1 s.2) (0,([] : List api_Proc))
noncomputable def ref30_Set (p : api_Procs) (id : Int) (state : Int) : Option (api_Procs × Int) :=
  (ref30_Find p id).bind fun x1 => if (!x1.2) then some (p,42) else if ((!decide (state = 1)) && ((!decide (state = 2)) && (!decide (state = 3)))) then some (p,1) else (ref30_with p (api_Proc.mk x1.1.Id x1.1.Parent state x1.1.User x1.1.Name x1.1.Ns x1.1.Env x1.1.Fds x1.1.Cwd x1.1.Notes x1.1.Status x1.1.Waits x1.1.Alone)).bind fun x7 => some (x7,0)
noncomputable def ref31_changed (p : api_Procs) (id : Int) (state : Int) : Option (api_Procs × Int) :=
  (ref30_Set p id state).bind fun x1 => if (!decide (x1.2 = 0)) then some (p,x1.2) else some (x1.1,0)
noncomputable def ref30_Exit_K28 (i : Int) (v21 : (List api_Proc)) (p29 : api_Proc) : Option (Step (Int × (List api_Proc)) (api_Procs × Int)) :=
  (appL 168 v21 [p29]).bind fun x30 => some (.cont ((IntKind.wrap .i64 (i + 1)),x30))
noncomputable def ref30_Exit_K26 (id : Int) (status : Str) (x1 : (api_Proc × Bool)) (i : Int) (v21 : (List api_Proc)) (p27 : api_Proc) : Option (Step (Int × (List api_Proc)) (api_Procs × Int)) :=
  if ((decide (p27.Id = x1.1.Parent)) && ((!x1.1.Alone) && (decide ((List.length p27.Waits : Int) < 64)))) then (appL 24 ([] : List api_Wait) p27.Waits).bind fun x35 => (appL 24 x35 [(api_Wait.mk id status)]).bind fun x36 => ref30_Exit_K28 i v21 (api_Proc.mk p27.Id p27.Parent p27.State p27.User p27.Name p27.Ns p27.Env p27.Fds p27.Cwd p27.Notes p27.Status x36 p27.Alone) else ref30_Exit_K28 i v21 p27
noncomputable def ref30_Exit_L22 (p : api_Procs) (id : Int) (status : Str) (x1 : (api_Proc × Bool)) (i : Int) (v21 : (List api_Proc)) : Option (Step (Int × (List api_Proc)) (api_Procs × Int)) :=
  if (decide (i < (List.length p.L : Int))) then (lsAt p.L i).bind fun x24 => if (decide (x24.Id = id)) then some (.cont ((IntKind.wrap .i64 (i + 1)),v21)) else if (decide (x24.Parent = id)) then ref30_Exit_K26 id status x1 i v21 (api_Proc.mk x24.Id 1 x24.State x24.User x24.Name x24.Ns x24.Env x24.Fds x24.Cwd x24.Notes x24.Status x24.Waits x24.Alone) else ref30_Exit_K26 id status x1 i v21 x24 else some (.done ((api_Procs.mk p.Next p.Group v21),0))
noncomputable def ref30_Exit (p : api_Procs) (id : Int) (status : Str) : Option (api_Procs × Int) :=
  (ref30_Find p id).bind fun x1 => if (!x1.2) then some (p,42) else if (decide (id = 1)) then some (p,43) else if (decide (1024 < (List.length status : Int))) then some (p,4) else loopM (fun s => ref30_Exit_L22 p id status x1 s.1 s.2) (0,([] : List api_Proc))
noncomputable def ref31_Control (p : api_Procs) (user : Str) (id : Int) (line : Str) : Option (api_Procs × Int) :=
  (ref30_Find p id).bind fun x1 => if (!x1.2) then some (p,42) else if (!decide (x1.1.User = user)) then some (p,11) else (ref01_Fields line).bind fun x4 => if (!decide ((List.length x4 : Int) = 1)) then some (p,54) else (lsAt x4 0).bind fun x6 => if (decide (x6 = [115,116,111,112])) then (ref31_changed p id 2).bind fun x8 => some (x8.1,x8.2) else (lsAt x4 0).bind fun x9 => if (decide (x9 = [115,116,97,114,116])) then (ref31_changed p id 1).bind fun x11 => some (x11.1,x11.2) else (lsAt x4 0).bind fun x12 => if (decide (x12 = [107,105,108,108])) then (ref30_Exit p id [107,105,108,108,101,100]).bind fun x14 => if (!decide (x14.2 = 0)) then some (p,x14.2) else some (x14.1,0) else some (p,54)
noncomputable def ref31_exists (p : api_Procs) (id : Int) : Option Bool :=
  if (decide (id = 1)) then some true else if ((decide (id < 16)) || (decide (5 < (Int.tmod id 16)))) then some false else (ref30_Find p (IntKind.wrap .i64 (Int.tdiv id 16))).bind fun x5 => some x5.2
noncomputable def ref31_directory (id : Int) : Option Bool :=
  some ((decide (id = 1)) || ((decide (16 ≤ id)) && (decide ((Int.tmod id 16) = 0))))
noncomputable def ref31_state (n : Int) : Option Str :=
  if (decide (n = 1)) then some [114,101,97,100,121] else if (decide (n = 2)) then some [115,116,111,112,112,101,100] else if (decide (n = 3)) then some [98,114,111,107,101,110] else if (decide (n = 4)) then some [103,111,110,101] else some [117,110,107,110,111,119,110]
noncomputable def ref01_based (base : Int) : Option Bool :=
  some ((decide (base = 8)) || ((decide (base = 10)) || (decide (base = 16))))
noncomputable def ref01_digits_L8 (base : Int) (n_1 : Int) (s_ : Str) : Option (Step (Int × Str) Str) :=
  if ((decide (n_1 < 0)) || (decide (s_ = []))) then (remI n_1 base).bind fun x12 => (cut [48,49,50,51,52,53,54,55,56,57,97,98,99,100,101,102] (IntKind.wrap .i64 (0 - x12)) (IntKind.wrap .i64 ((IntKind.wrap .i64 (0 - x12)) + 1))).bind fun x13 => (catS x13 s_).bind fun x14 => (quoI .i64 n_1 base).bind fun x15 => some (.cont (x15,x14)) else some (.done s_)
noncomputable def ref01_digits (n : Int) (base : Int) : Option Str :=
  loopM (fun s => ref01_digits_L8 base s.1 s.2) (n,[])
noncomputable def ref01_Text (n : Int) (base : Int) : Option Str :=
  (ref01_based base).bind fun x1 => if (!x1) then some [] else if (decide (n < 0)) then (ref01_digits n base).bind fun x4 => (catS [45] x4).bind fun x5 => some x5 else (ref01_digits (IntKind.wrap .i64 (0 - n)) base).bind fun x6 => some x6
noncomputable def ref31_Status (p : api_Proc) : Option Str :=
  (catS p.Name [32]).bind fun x1 => (catS x1 p.User).bind fun x2 => (catS x2 [32]).bind fun x3 => (ref31_state p.State).bind fun x4 => (catS x3 x4).bind fun x5 => (catS x5 [32]).bind fun x6 => (ref01_Text p.Parent 10).bind fun x7 => (catS x6 x7).bind fun x8 => (catS x8 [10]).bind fun x9 => some x9
noncomputable def ref31_piece (s_ : Str) (offset : Int) (count : Int) : Option Str :=
  if (decide ((List.length s_ : Int) ≤ offset)) then some [] else (cut s_ offset (List.length s_ : Int)).bind fun x2 => if (decide (count < (List.length x2 : Int))) then (cut x2 0 count).bind fun x4 => some x4 else some x2
noncomputable def ref30_Await_L14 (p : api_Procs) (id : Int) (i : Int) : Option (Step Int (api_Procs × api_Wait × Bool × Int)) :=
  if (decide (i < (List.length p.L : Int))) then (lsAt p.L i).bind fun x16 => (if (decide (x16.Parent = id)) then (lsAt p.L i).bind fun x18 => some (!x18.Alone) else some false).bind fun t19 => if t19 then some (.done (p,(api_Wait.mk 0 []),true,0)) else some (.cont (IntKind.wrap .i64 (i + 1))) else some (.done (p,(api_Wait.mk 0 []),false,42))
noncomputable def ref30_Await (p : api_Procs) (id : Int) : Option (api_Procs × api_Wait × Bool × Int) :=
  (ref30_Find p id).bind fun x1 => if (!x1.2) then some (p,(api_Wait.mk 0 []),false,42) else if (decide (0 < (List.length x1.1.Waits : Int))) then (lsAt x1.1.Waits 0).bind fun x4 => (cut x1.1.Waits 1 (List.length x1.1.Waits : Int)).bind fun x5 => (ref30_with p (api_Proc.mk x1.1.Id x1.1.Parent x1.1.State x1.1.User x1.1.Name x1.1.Ns x1.1.Env x1.1.Fds x1.1.Cwd x1.1.Notes x1.1.Status x5 x1.1.Alone)).bind fun x6 => some (x6,x4,false,0) else loopM (fun s => ref30_Await_L14 p id s) 0
noncomputable def ref31_Read_K14 (p : api_Procs) (id : Int) (count : Int) (p15 : Bool) : Option (api_Procs × Str × Bool × Int) :=
  if p15 then some (p,[],false,0) else (ref30_Await p (IntKind.wrap .i64 (Int.tdiv id 16))).bind fun x17 => if ((!decide (x17.2.2.2 = 0)) || x17.2.2.1) then some (p,[],(x17.2.2.1 && (decide (x17.2.2.2 = 0))),x17.2.2.2) else (ref01_Text x17.2.1.Id 10).bind fun x23 => (catS x23 [32]).bind fun x24 => (catS x24 x17.2.1.Status).bind fun x25 => (catS x25 [10]).bind fun x26 => (ref31_piece x26 0 (min count 65536)).bind fun x27 => some (x17.1,x27,false,0)
noncomputable def ref31_Read (p : api_Procs) (id : Int) (offset : Int) (count : Int) : Option (api_Procs × Str × Bool × Int) :=
  (ref31_exists p id).bind fun x1 => if (!x1) then some (p,[],false,8) else (ref31_directory id).bind fun x3 => if x3 then some (p,[],false,10) else if ((decide (offset < 0)) || (decide (count < 0))) then some (p,[],false,1) else (ref30_Find p (IntKind.wrap .i64 (Int.tdiv id 16))).bind fun x8 => if (decide ((Int.tmod id 16) = 2)) then (ref31_Status x8.1).bind fun x10 => (ref31_piece x10 offset (min count 65536)).bind fun x11 => some (p,x11,false,0) else if (decide ((Int.tmod id 16) = 5)) then (ref31_piece x8.1.Cwd offset (min count 65536)).bind fun x13 => some (p,x13,false,0) else if (decide ((Int.tmod id 16) = 1)) then ref31_Read_K14 p id count (decide ((Int.tmod id 16) = 1)) else ref31_Read_K14 p id count (decide ((Int.tmod id 16) = 3))
noncomputable def ref31_command (s_ : Str) : Option Str :=
  (if (decide (0 < (List.length s_ : Int))) then (strAt s_ (IntKind.wrap .i64 ((List.length s_ : Int) - 1))).bind fun c2 => some (decide ((c2.toNat : Int) = 10)) else some false).bind fun t3 => if t3 then (cut s_ 0 (IntKind.wrap .i64 ((List.length s_ : Int) - 1))).bind fun x5 => some x5 else some s_
noncomputable def ref30_Note (p : api_Procs) (id : Int) (note : Str) : Option (api_Procs × Int) :=
  (ref30_Find p id).bind fun x1 => if (!x1.2) then some (p,42) else if (decide (1024 < (List.length note : Int))) then some (p,4) else if (decide (8 ≤ (List.length x1.1.Notes : Int))) then some (p,22) else (appL 16 ([] : List Str) x1.1.Notes).bind fun x5 => (appL 16 x5 [note]).bind fun x6 => (ref30_with p (api_Proc.mk x1.1.Id x1.1.Parent x1.1.State x1.1.User x1.1.Name x1.1.Ns x1.1.Env x1.1.Fds x1.1.Cwd x6 x1.1.Status x1.1.Waits x1.1.Alone)).bind fun x7 => some (x7,0)
noncomputable def ref31_Write_K6 (p : api_Procs) (data : Str) (p7 : Int) (p8 : api_Procs) : Option (api_Procs × Int × Int) :=
  if (!decide (p7 = 0)) then some (p,0,p7) else some (p8,(List.length data : Int),0)
noncomputable def ref31_Write (p : api_Procs) (user : Str) (id : Int) (data : Str) : Option (api_Procs × Int × Int) :=
  (ref31_exists p id).bind fun x1 => if (!x1) then some (p,0,8) else (ref31_directory id).bind fun x3 => if x3 then some (p,0,10) else (ref30_Find p (IntKind.wrap .i64 (Int.tdiv id 16))).bind fun x5 => if (decide ((Int.tmod id 16) = 1)) then (ref31_Control p user (IntKind.wrap .i64 (Int.tdiv id 16)) data).bind fun x11 => ref31_Write_K6 p data x11.2 x11.1 else if ((decide ((Int.tmod id 16) = 3)) && (decide (x5.1.User = user))) then (ref31_command data).bind fun x15 => (ref30_Note p (IntKind.wrap .i64 (Int.tdiv id 16)) x15).bind fun x16 => ref31_Write_K6 p data x16.2 x16.1 else ref31_Write_K6 p data 11 p
noncomputable def law31_want_K1 (p2 : api_Procs) (p3 : law31_Out) : Option (api_Procs × law31_Out) :=
  some (p2,p3)
noncomputable def law31_want (p : api_Procs) (o : law31_Op) : Option (api_Procs × law31_Out) :=
  if (decide (o.Kind = 1)) then (ref31_Control p o.User o.Id o.Text).bind fun x5 => law31_want_K1 x5.1 (law31_Out.mk 0 [] false x5.2) else if (decide (o.Kind = 2)) then (ref31_Read p o.Id o.Offset o.Count).bind fun x7 => law31_want_K1 x7.1 (law31_Out.mk 0 x7.2.1 x7.2.2.1 x7.2.2.2) else if (decide (o.Kind = 3)) then (ref31_Write p o.User o.Id o.Text).bind fun x9 => law31_want_K1 x9.1 (law31_Out.mk x9.2.1 [] false x9.2.2) else law31_want_K1 p (law31_Out.mk 0 [] false 0)
noncomputable def ref31_SameProc_L19 (a : api_Proc) (b : api_Proc) (v18 : Int) : Option (Step Int Bool) :=
  if (decide (v18 < (List.length a.Waits : Int))) then (lsAt a.Waits v18).bind fun x21 => (lsAt b.Waits v18).bind fun x22 => if (!(decide (x21.Id = x22.Id) && (decide (x21.Status = x22.Status) && true))) then some (.done false) else some (.cont (IntKind.wrap .i64 (v18 + 1))) else some (.done (((decide (a.Ns = b.Ns)) && ((decide (a.Env = b.Env)) && ((decide (a.Fds = b.Fds)) && (decide (a.Alone = b.Alone))))) && ((decide (a.Id = b.Id)) && ((decide (a.Parent = b.Parent)) && ((decide (a.State = b.State)) && ((decide (a.User = b.User)) && ((decide (a.Name = b.Name)) && ((decide (a.Cwd = b.Cwd)) && (decide (a.Status = b.Status))))))))))
noncomputable def ref31_SameProc_L9 (a : api_Proc) (b : api_Proc) (v8 : Int) : Option (Step Int Bool) :=
  if (decide (v8 < (List.length a.Notes : Int))) then (lsAt a.Notes v8).bind fun x11 => (lsAt b.Notes v8).bind fun x12 => if (!decide (x11 = x12)) then some (.done false) else some (.cont (IntKind.wrap .i64 (v8 + 1))) else (loopM (fun s => ref31_SameProc_L19 a b s) 0).map .done
noncomputable def ref31_SameProc (a : api_Proc) (b : api_Proc) : Option Bool :=
  if ((!decide ((List.length a.Notes : Int) = (List.length b.Notes : Int))) || (!decide ((List.length a.Waits : Int) = (List.length b.Waits : Int)))) then some false else loopM (fun s => ref31_SameProc_L9 a b s) 0
noncomputable def ref31_Same_L11 (a : api_Procs) (b : api_Procs) (v10 : Int) : Option (Step Int Bool) :=
  if (decide (v10 < (List.length a.L : Int))) then (lsAt a.L v10).bind fun x13 => (lsAt b.L v10).bind fun x14 => (ref31_SameProc x13 x14).bind fun x15 => if (!x15) then some (.done false) else some (.cont (IntKind.wrap .i64 (v10 + 1))) else some (.done true)
noncomputable def ref31_Same (a : api_Procs) (b : api_Procs) : Option Bool :=
  if ((!decide (a.Next = b.Next)) || ((!decide (a.Group = b.Group)) || (!decide ((List.length a.L : Int) = (List.length b.L : Int))))) then some false else loopM (fun s => ref31_Same_L11 a b s) 0
noncomputable def proc_family (p : api_Procs) (i : Int) : Option Bool :=
  (lsAt p.L i).bind fun x1 => if (decide (i = 0)) then some ((decide (x1.Id = 1)) && (decide (x1.Parent = 0))) else (lsAt p.L (IntKind.wrap .i64 (i - 1))).bind fun x5 => (if (decide (x5.Id < x1.Id)) then if (decide (x1.Parent < x1.Id)) then (proc_index p x1.Parent).bind fun x8 => some (decide (0 ≤ x8)) else some false else some false).bind fun t9 => some t9
noncomputable def path_Valid_L15 (name : Str) (v14 : Int) : Option (Step Int Bool) :=
  if (decide (v14 < (List.length name : Int))) then (strAt name v14).bind fun c17 => (if (decide ((c17.toNat : Int) < 33)) then some true else (strAt name v14).bind fun c19 => if (decide (126 < (c19.toNat : Int))) then some true else (strAt name v14).bind fun c21 => some (decide ((c21.toNat : Int) = 47))).bind fun t22 => if t22 then some (.done false) else some (.cont (IntKind.wrap .i64 (v14 + 1))) else some (.done true)
noncomputable def path_Valid (name : Str) : Option Bool :=
  if ((decide (name = [])) || ((decide (name = [46])) || ((decide (name = [46,46])) || (decide (64 < (List.length name : Int)))))) then some false else loopM (fun s => path_Valid_L15 name s) 0
noncomputable def unicode_utf8_RuneCountInString (s_ : Str) : Option Int :=
  none
noncomputable def unicode_utf8_decodeRuneInStringSlow (s_ : Str) : Option (Int × Int) :=
  if (decide ((List.length s_ : Int) < 1)) then some (65533,0) else (strAt s_ 0).bind fun c2 => none
noncomputable def unicode_utf8_DecodeRuneInString (s_ : Str) : Option (Int × Int) :=
  (if (!decide (s_ = [])) then (strAt s_ 0).bind fun c2 => some (decide ((c2.toNat : Int) < 128)) else some false).bind fun t3 => if t3 then (strAt s_ 0).bind fun c5 => some ((IntKind.wrap .i32 (c5.toNat : Int)),1) else (unicode_utf8_decodeRuneInStringSlow s_).bind fun x6 => some (x6.1,x6.2)
noncomputable def strings_explode_A21 (p3 : Int) (s__1 : Str) (a : (List Str)) : Option (List Str) :=
  if (decide (0 < p3)) then (lsAt a (IntKind.wrap .i64 (p3 - 1))).bind fun x20 => some (List.set a (Int.toNat (IntKind.wrap .i64 (p3 - 1))) s__1) else some a
noncomputable def strings_explode_L13 (p3 : Int) (s__1 : Str) (i : Int) (a : (List Str)) : Option (Step (Str × Int × (List Str)) (List Str)) :=
  if (decide (i < (IntKind.wrap .i64 (p3 - 1)))) then (unicode_utf8_DecodeRuneInString s__1).bind fun x15 => (cut s__1 0 x15.2).bind fun x16 => (lsAt a i).bind fun x17 => (cut s__1 x15.2 (List.length s__1 : Int)).bind fun x18 => some (.cont (x18,(IntKind.wrap .i64 (i + 1)),(List.set a (Int.toNat i) x16))) else (strings_explode_A21 p3 s__1 a).map .done
noncomputable def strings_explode_K2 (s_ : Str) (p3 : Int) : Option (List Str) :=
  (mkC 16 ([] : Str) p3 p3).bind fun x4 => loopM (fun s => strings_explode_L13 p3 s.1 s.2.1 s.2.2) (s_,0,x4)
noncomputable def strings_explode (s_ : Str) (n : Int) : Option (List Str) :=
  (unicode_utf8_RuneCountInString s_).bind fun x1 => if ((decide (n < 0)) || (decide (x1 < n))) then strings_explode_K2 s_ x1 else strings_explode_K2 s_ n
noncomputable def strings_Count (a0 : Str) (a1 : Str) : Option Int := xCount a0 a1
noncomputable def strings_Index (a0 : Str) (a1 : Str) : Option Int := xIndex a0 a1
noncomputable def strings_genSplit_K7 (p8 : Str) (p9 : Int) (p10 : (List Str)) : Option (List Str) :=
  (lsAt p10 p9).bind fun x11 => (cut (List.set p10 (Int.toNat p9) p8) 0 (IntKind.wrap .i64 (p9 + 1))).bind fun x12 => some x12
noncomputable def strings_genSplit_L22 (s_ : Str) (sep : Str) (sepSave : Int) (p5 : Int) (s__2 : Str) (i_1 : Int) (a_1 : (List Str)) : Option (Step (Str × Int × (List Str)) (List Str)) :=
  if (decide (i_1 < (IntKind.wrap .i64 ((min p5 (IntKind.wrap .i64 ((List.length s_ : Int) + 1))) - 1)))) then (strings_Index s__2 sep).bind fun x24 => if (decide (x24 < 0)) then (strings_genSplit_K7 s__2 i_1 a_1).map .done else (cut s__2 0 (IntKind.wrap .i64 (x24 + sepSave))).bind fun x26 => (lsAt a_1 i_1).bind fun x27 => (cut s__2 (IntKind.wrap .i64 (x24 + (List.length sep : Int))) (List.length s__2 : Int)).bind fun x28 => some (.cont (x28,(IntKind.wrap .i64 (i_1 + 1)),(List.set a_1 (Int.toNat i_1) x26))) else (strings_genSplit_K7 s__2 i_1 a_1).map .done
noncomputable def strings_genSplit_K4 (s_ : Str) (sep : Str) (sepSave : Int) (p5 : Int) : Option (List Str) :=
  (mkC 16 ([] : Str) (min p5 (IntKind.wrap .i64 ((List.length s_ : Int) + 1))) (min p5 (IntKind.wrap .i64 ((List.length s_ : Int) + 1)))).bind fun x6 => loopM (fun s => strings_genSplit_L22 s_ sep sepSave p5 s.1 s.2.1 s.2.2) (s_,0,x6)
noncomputable def strings_genSplit (s_ : Str) (sep : Str) (sepSave : Int) (n : Int) : Option (List Str) :=
  if (decide (n = 0)) then some ([] : List Str) else if (decide (sep = [])) then (strings_explode s_ n).bind fun x3 => some x3 else if (decide (n < 0)) then (strings_Count s_ sep).bind fun x30 => strings_genSplit_K4 s_ sep sepSave (IntKind.wrap .i64 (x30 + 1)) else strings_genSplit_K4 s_ sep sepSave n
noncomputable def strings_Split (s_ : Str) (sep : Str) : Option (List Str) :=
  (strings_genSplit s_ sep 0 (-1)).bind fun x1 => some x1
noncomputable def stringslite_HasPrefix (s_ : Str) (prefix_ : Str) : Option Bool :=
  (if (decide ((List.length prefix_ : Int) ≤ (List.length s_ : Int))) then (cut s_ 0 (List.length prefix_ : Int)).bind fun x2 => some (decide (x2 = prefix_)) else some false).bind fun t3 => some t3
noncomputable def strings_HasPrefix (s_ : Str) (prefix_ : Str) : Option Bool :=
  (stringslite_HasPrefix s_ prefix_).bind fun x1 => some x1
noncomputable def path_rooted (p : Str) : Option Bool :=
  (strings_HasPrefix p [47]).bind fun x1 => some x1
noncomputable def path_Split_A43 (out : (List Str)) : Option ((List Str) × Int) :=
  if (decide (32 < (List.length out : Int))) then some (([] : List Str),4) else some (out,0)
noncomputable def path_Split_L23 (p : Str) (x2 : (List Str)) (v21 : Int) (out : (List Str)) : Option (Step (Int × (List Str)) ((List Str) × Int)) :=
  if (decide (v21 < (List.length x2 : Int))) then (lsAt x2 v21).bind fun x25 => if ((decide (x25 = [])) || (decide (x25 = [46]))) then some (.cont ((IntKind.wrap .i64 (v21 + 1)),out)) else (if (decide (x25 = [46,46])) then if (decide (0 ≤ (IntKind.wrap .i64 ((List.length out : Int) - 1)))) then (lsAt out (IntKind.wrap .i64 ((List.length out : Int) - 1))).bind fun x31 => some (!decide (x31 = [46,46])) else some false else some false).bind fun t32 => if t32 then (cut out 0 (IntKind.wrap .i64 ((List.length out : Int) - 1))).bind fun x34 => some (.cont ((IntKind.wrap .i64 (v21 + 1)),x34)) else if (decide (x25 = [46,46])) then (path_rooted p).bind fun x36 => if (!x36) then (appL 16 out [x25]).bind fun x38 => some (.cont ((IntKind.wrap .i64 (v21 + 1)),x38)) else some (.cont ((IntKind.wrap .i64 (v21 + 1)),out)) else (path_Valid x25).bind fun x39 => if (!x39) then some (.done (([] : List Str),6)) else (appL 16 out [x25]).bind fun x41 => some (.cont ((IntKind.wrap .i64 (v21 + 1)),x41)) else (path_Split_A43 out).map .done
noncomputable def path_Split (p : Str) : Option ((List Str) × Int) :=
  if (decide (1024 < (List.length p : Int))) then some (([] : List Str),4) else (strings_Split p [47]).bind fun x2 => loopM (fun s => path_Split_L23 p x2 s.1 s.2) (0,([] : List Str))
noncomputable def strings_Join (a0 : (List Str)) (a1 : Str) : Option Str := xJoin a0 a1
noncomputable def path_build (l : (List Str)) (root : Bool) : Option Str :=
  if root then (strings_Join l [47]).bind fun x2 => (catS [47] x2).bind fun x3 => some x3 else if (decide ((List.length l : Int) = 0)) then some [46] else (strings_Join l [47]).bind fun x5 => some x5
noncomputable def path_Clean (p : Str) : Option (Str × Int) :=
  (path_Split p).bind fun x1 => if (!decide (x1.2 = 0)) then some ([],x1.2) else (path_rooted p).bind fun x3 => (path_build x1.1 x3).bind fun x4 => some (x4,0)
noncomputable def proc_rooted (s_ : Str) : Option Bool :=
  (path_Clean s_).bind fun x1 => (if (decide (x1.2 = 0)) then if (decide (x1.1 = s_)) then if (!decide (s_ = [])) then (strAt s_ 0).bind fun c5 => some (decide ((c5.toNat : Int) = 47)) else some false else some false else some false).bind fun t6 => some t6
noncomputable def proc_fields_L45 (p : api_Procs) (x_ : api_Proc) (v44 : Int) : Option (Step Int Bool) :=
  if (decide (v44 < (List.length x_.Waits : Int))) then (lsAt x_.Waits v44).bind fun x47 => (if (decide (x47.Id < 1)) then some true else if (decide (p.Next ≤ x47.Id)) then some true else (proc_short x47.Status).bind fun x50 => some (!x50)).bind fun t51 => if t51 then some (.done false) else some (.cont (IntKind.wrap .i64 (v44 + 1))) else some (.done true)
noncomputable def proc_fields_L32 (p : api_Procs) (x_ : api_Proc) (v31 : Int) : Option (Step Int Bool) :=
  if (decide (v31 < (List.length x_.Notes : Int))) then (lsAt x_.Notes v31).bind fun x34 => (proc_short x34).bind fun x35 => if (!x35) then some (.done false) else some (.cont (IntKind.wrap .i64 (v31 + 1))) else (loopM (fun s => proc_fields_L45 p x_ s) 0).map .done
noncomputable def proc_fields_A53 (p : api_Procs) (x_ : api_Proc) : Option Bool :=
  if ((decide (8 < (List.length x_.Notes : Int))) || (decide (64 < (List.length x_.Waits : Int)))) then some false else loopM (fun s => proc_fields_L32 p x_ s) 0
noncomputable def proc_fields_L18 (p : api_Procs) (x_ : api_Proc) (v17 : Int) : Option (Step Int Bool) :=
  if (decide (v17 < 3)) then (lsAt [x_.Ns,x_.Env,x_.Fds] v17).bind fun x20 => if ((decide (x20 < 1)) || (decide (p.Group ≤ x20))) then some (.done false) else some (.cont (IntKind.wrap .i64 (v17 + 1))) else (proc_fields_A53 p x_).map .done
noncomputable def proc_fields (p : api_Procs) (x_ : api_Proc) : Option Bool :=
  (proc_state x_.State).bind fun x1 => (if (!x1) then some true else (user_Valid x_.User).bind fun x3 => if (!x3) then some true else if (!decide (x_.Name = [])) then (path_Valid x_.Name).bind fun x6 => if (!x6) then some true else (proc_rooted x_.Cwd).bind fun x8 => if (!x8) then some true else some (!decide (x_.Status = [])) else (proc_rooted x_.Cwd).bind fun x10 => if (!x10) then some true else some (!decide (x_.Status = []))).bind fun t12 => if t12 then some false else loopM (fun s => proc_fields_L18 p x_ s) 0
noncomputable def proc_Right_L17 (p : api_Procs) (v16 : Int) : Option (Step Int Bool) :=
  if (decide (v16 < (List.length p.L : Int))) then (lsAt p.L v16).bind fun x19 => (proc_family p v16).bind fun x20 => (if (!x20) then some true else (proc_fields p x19).bind fun x22 => some (!x22)).bind fun t23 => if t23 then some (.done false) else some (.cont (IntKind.wrap .i64 (v16 + 1))) else some (.done true)
noncomputable def proc_Right (p : api_Procs) : Option Bool :=
  (if (decide ((List.length p.L : Int) < 1)) then some true else if (decide (64 < (List.length p.L : Int))) then some true else (lsAt p.L (IntKind.wrap .i64 ((List.length p.L : Int) - 1))).bind fun x3 => if (decide (p.Next ≤ x3.Id)) then some true else if (decide (1048576 < p.Next)) then some true else if (decide (p.Group < 2)) then some true else some (decide (1099511627777 < p.Group))).bind fun t7 => if t7 then some false else loopM (fun s => proc_Right_L17 p s) 0
noncomputable def law31_ProcfsCalls (p : api_Procs) (o : law31_Op) : Option Bool :=
  (law31_small p).bind fun x1 => (if (!x1) then some true else if (decide (5000 < (List.length o.Text : Int))) then some true else if (decide (200 < (List.length o.User : Int))) then some true else (ref30_Right p).bind fun x5 => some (!x5)).bind fun t6 => if t6 then (law31_awake).bind fun x8 => some x8 else (law31_did p o).bind fun x9 => (law31_want p o).bind fun x10 => (if (decide (x9.2.N = x10.2.N) && (decide (x9.2.Text = x10.2.Text) && (decide (x9.2.Blocked = x10.2.Blocked) && (decide (x9.2.Err = x10.2.Err) && true)))) then (ref31_Same x9.1 x10.1).bind fun x12 => if x12 then (proc_Right x9.1).bind fun x14 => if x14 then (law31_awake).bind fun x16 => some x16 else some false else some false else some false).bind fun t17 => some t17
end Go.Proofs.YtgmlbldjdhonjaaGreatDoor
