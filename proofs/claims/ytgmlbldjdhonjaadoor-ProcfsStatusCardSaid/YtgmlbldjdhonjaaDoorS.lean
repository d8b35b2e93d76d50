import Derived.Test.YtgmlbldjdhonjaaDoorVmX
import Derived.Test.YtgmlbldjdhonjaaDoorVmB
import Derived.Test.YtgmlbldjdhonjaaDoorVmI
namespace Go.Proofs.YtgmlbldjdhonjaaDoor
open Go.Vm
set_option autoImplicit false
set_option linter.unusedVariables false
set_option linter.unusedSimpArgs false
set_option maxRecDepth 100000
abbrev Str := List UInt8
structure api_Wait where
  Id : Int
  Status : Str
  deriving Inhabited
def zE1 (x : api_Wait) : PV := .agg [.int .i64 x.Id,.str x.Status]
structure api_Proc where
  Id : Int
  Parent : Int
  State : Int
  User : Str
  Name : Str
  Ns : Int
  Env : Int
  Fds : Int
  Cwd : Str
  Notes : (List Str)
  Status : Str
  Waits : (List api_Wait)
  Alone : Bool
  deriving Inhabited
def zE2 (x : api_Proc) : PV := .agg [.int .i64 x.Id,.int .i64 x.Parent,.int .i64 x.State,.str x.User,.str x.Name,.int .i64 x.Ns,.int .i64 x.Env,.int .i64 x.Fds,.str x.Cwd,.sl none (List.map PV.str x.Notes),.str x.Status,.sl (some 2) (List.map zE1 x.Waits),.bool x.Alone]
structure api_Procs where
  Next : Int
  Group : Int
  L : (List api_Proc)
  deriving Inhabited
def zE3 (x : api_Procs) : PV := .agg [.int .i64 x.Next,.int .i64 x.Group,.sl (some 13) (List.map zE2 x.L)]
structure api_Qid where
  Type_ : Int
  Vers : Int
  Path : Int
  deriving Inhabited
structure api_Dir where
  Type_ : Int
  Dev : Int
  Qid : api_Qid
  Mode : Int
  Atime : Int
  Mtime : Int
  Length : Int
  Name : Str
  Uid : Str
  Gid : Str
  Muid : Str
  deriving Inhabited
structure law31_Op where
  Kind : Int
  User : Str
  Id : Int
  Offset : Int
  Count : Int
  Text : Str
  deriving Inhabited
structure law31_Out where
  N : Int
  Text : Str
  Blocked : Bool
  Err : Int
  deriving Inhabited
noncomputable def law31_slight_L20 (x_ : api_Proc) (v19 : Int) : Option (Step Int Bool) :=
  if (decide (v19 < (List.length x_.Waits : Int))) then (lsAt x_.Waits v19).bind fun x22 => if (decide (2000 < (List.length x22.Status : Int))) then some (.done false) else some (.cont (IntKind.wrap .i64 (v19 + 1))) else some (.done true)
noncomputable def law31_slight_L12 (x_ : api_Proc) (v11 : Int) : Option (Step Int Bool) :=
  if (decide (v11 < (List.length x_.Notes : Int))) then (lsAt x_.Notes v11).bind fun x14 => if (decide (2000 < (List.length x14 : Int))) then some (.done false) else some (.cont (IntKind.wrap .i64 (v11 + 1))) else (loopM (fun s => law31_slight_L20 x_ s) 0).map .done
noncomputable def law31_slight (x_ : api_Proc) : Option Bool :=
  if ((decide (20 < (List.length x_.Notes : Int))) || ((decide (70 < (List.length x_.Waits : Int))) || ((decide (200 < (List.length x_.User : Int))) || ((decide (2000 < (List.length x_.Name : Int))) || ((decide (2000 < (List.length x_.Cwd : Int))) || (decide (2000 < (List.length x_.Status : Int)))))))) then some false else loopM (fun s => law31_slight_L12 x_ s) 0
noncomputable def user_Valid_L17 (name : Str) (v16 : Int) : Option (Step Int Bool) :=
  if (decide (v16 < (List.length name : Int))) then (strAt name v16).bind fun c19 => if ((!((decide (97 ≤ (c19.toNat : Int))) && (decide ((c19.toNat : Int) ≤ 122)))) && ((decide (v16 = 0)) || (!(if (decide (48 ≤ (c19.toNat : Int))) then ((decide ((c19.toNat : Int) ≤ 57)) || ((decide ((c19.toNat : Int) = 45)) || (decide ((c19.toNat : Int) = 95)))) else ((decide ((c19.toNat : Int) = 45)) || (decide ((c19.toNat : Int) = 95))))))) then some (.done false) else some (.cont (IntKind.wrap .i64 (v16 + 1))) else some (.done true)
noncomputable def user_Valid (name : Str) : Option Bool :=
  if ((decide (name = [])) || (decide (32 < (List.length name : Int)))) then some false else loopM (fun s => user_Valid_L17 name s) 0
noncomputable def proc_New (name : Str) : Option (api_Procs × Int) :=
  (user_Valid name).bind fun x1 => if (!x1) then some ((api_Procs.mk 0 0 ([] : List api_Proc)),25) else some ((api_Procs.mk 2 2 [(api_Proc.mk 1 0 1 name [] 1 1 1 [47] ([] : List Str) [] ([] : List api_Wait) false)]),0)
noncomputable def num_known (base : Int) : Option Bool :=
  some ((decide (base = 8)) || ((decide (base = 10)) || (decide (base = 16))))
noncomputable def strconv_FormatInt (a0 : Int) (a1 : Int) : Option Str := xFormatInt a0 a1
noncomputable def num_Text (n : Int) (base : Int) : Option Str :=
  (num_known base).bind fun x1 => if (!x1) then some [] else (strconv_FormatInt n base).bind fun x3 => some x3
noncomputable def procfs_Status_K1 (p : api_Proc) (p2 : Str) : Option Str :=
  (catS p.Name [32]).bind fun x3 => (catS x3 p.User).bind fun x4 => (catS x4 [32]).bind fun x5 => (catS x5 p2).bind fun x6 => (catS x6 [32]).bind fun x7 => (num_Text p.Parent 10).bind fun x8 => (catS x7 x8).bind fun x9 => (catS x9 [10]).bind fun x10 => some x10
noncomputable def procfs_Status (p : api_Proc) : Option Str :=
  if (decide (p.State = 1)) then procfs_Status_K1 p [114,101,97,100,121] else if (decide (p.State = 2)) then procfs_Status_K1 p [115,116,111,112,112,101,100] else if (decide (p.State = 3)) then procfs_Status_K1 p [98,114,111,107,101,110] else if (decide (p.State = 4)) then procfs_Status_K1 p [103,111,110,101] else procfs_Status_K1 p [117,110,107,110,111,119,110]
noncomputable def proc_index_1 (x_ : api_Proc) (a1 : Int) : Option Bool :=
  some (decide (x_.Id = a1))
noncomputable def slices_IndexFunc_api_Proc_api_Proc_f83_L6 (s_ : (List api_Proc)) (f : Int) (v5 : Int) : Option (Step Int Int) :=
  if (decide (v5 < (List.length s_ : Int))) then (lsAt s_ v5).bind fun x8 => (proc_index_1 x8 f).bind fun x9 => if x9 then some (.done v5) else some (.cont (IntKind.wrap .i64 (v5 + 1))) else some (.done (-1))
noncomputable def slices_IndexFunc_api_Proc_api_Proc_f83 (s_ : (List api_Proc)) (f : Int) : Option Int :=
  loopM (fun s => slices_IndexFunc_api_Proc_api_Proc_f83_L6 s_ f s) 0
noncomputable def proc_index (p : api_Procs) (id : Int) : Option Int :=
  (slices_IndexFunc_api_Proc_api_Proc_f83 p.L id).bind fun x1 => some x1
noncomputable def slices_Clone_string_string_n : Option (List Str) :=
  some ([] : List Str)
noncomputable def slices_Clone_string_string_e : Option (List Str) :=
  (appL 16 ([] : List Str) []).bind fun x1 => some x1
noncomputable def slices_Clone_string_string (s_ : (List Str)) : Option (List Str) :=
  (appL 16 ([] : List Str) s_).bind fun x1 => some x1
noncomputable def slices_Clone_api_Wait_api_Wait_n : Option (List api_Wait) :=
  some ([] : List api_Wait)
noncomputable def slices_Clone_api_Wait_api_Wait_e : Option (List api_Wait) :=
  (appL 24 ([] : List api_Wait) []).bind fun x1 => some x1
noncomputable def slices_Clone_api_Wait_api_Wait (s_ : (List api_Wait)) : Option (List api_Wait) :=
  (appL 24 ([] : List api_Wait) s_).bind fun x1 => some x1
noncomputable def proc_clone (x_ : api_Proc) : Option api_Proc :=
  (slices_Clone_string_string x_.Notes).bind fun x1 => (slices_Clone_api_Wait_api_Wait x_.Waits).bind fun x2 => some (api_Proc.mk x_.Id x_.Parent x_.State x_.User x_.Name x_.Ns x_.Env x_.Fds x_.Cwd x1 x_.Status x2 x_.Alone)
noncomputable def proc_Find (p : api_Procs) (id : Int) : Option (api_Proc × Bool) :=
  (proc_index p id).bind fun x1 => if (decide (x1 < 0)) then some ((api_Proc.mk 0 0 0 [] [] 0 0 0 [] ([] : List Str) [] ([] : List api_Wait) false),false) else (lsAt p.L x1).bind fun x3 => (proc_clone x3).bind fun x4 => some (x4,true)
noncomputable def slices_Clone_api_Proc_api_Proc_n : Option (List api_Proc) :=
  some ([] : List api_Proc)
noncomputable def slices_Clone_api_Proc_api_Proc_e : Option (List api_Proc) :=
  (appL 168 ([] : List api_Proc) []).bind fun x1 => some x1
noncomputable def slices_Clone_api_Proc_api_Proc (s_ : (List api_Proc)) : Option (List api_Proc) :=
  (appL 168 ([] : List api_Proc) s_).bind fun x1 => some x1
noncomputable def procfs_copied_L11 (p : api_Procs) (x1 : (List api_Proc)) (v9 : Int) (v10 : (List api_Proc)) : Option (Step (Int × (List api_Proc)) api_Procs) :=
  if (decide (v9 < (List.length x1 : Int))) then (lsAt v10 v9).bind fun x13 => (slices_Clone_string_string x13.Notes).bind fun x14 => (lsAt v10 v9).bind fun x15 => (lsAt (List.set v10 (Int.toNat v9) (api_Proc.mk x15.Id x15.Parent x15.State x15.User x15.Name x15.Ns x15.Env x15.Fds x15.Cwd x14 x15.Status x15.Waits x15.Alone)) v9).bind fun x16 => (slices_Clone_api_Wait_api_Wait x16.Waits).bind fun x17 => (lsAt (List.set v10 (Int.toNat v9) (api_Proc.mk x15.Id x15.Parent x15.State x15.User x15.Name x15.Ns x15.Env x15.Fds x15.Cwd x14 x15.Status x15.Waits x15.Alone)) v9).bind fun x18 => some (.cont ((IntKind.wrap .i64 (v9 + 1)),(List.set (List.set v10 (Int.toNat v9) (api_Proc.mk x15.Id x15.Parent x15.State x15.User x15.Name x15.Ns x15.Env x15.Fds x15.Cwd x14 x15.Status x15.Waits x15.Alone)) (Int.toNat v9) (api_Proc.mk x18.Id x18.Parent x18.State x18.User x18.Name x18.Ns x18.Env x18.Fds x18.Cwd x18.Notes x18.Status x17 x18.Alone)))) else some (.done (api_Procs.mk p.Next p.Group v10))
noncomputable def procfs_copied (p : api_Procs) : Option api_Procs :=
  (slices_Clone_api_Proc_api_Proc p.L).bind fun x1 => loopM (fun s => procfs_copied_L11 p x1 s.1 s.2) (0,x1)
noncomputable def num_Fields_K29 (s_ : Str) (from_ : Int) (v24 : Int) (out : (List Str)) (p30 : Bool) : Option (Step (Int × Int × (List Str)) (List Str)) :=
  if p30 then if (decide (0 ≤ from_)) then (cut s_ from_ v24).bind fun x33 => (appL 16 out [x33]).bind fun x34 => some (.cont ((-1),(IntKind.wrap .i64 (v24 + 1)),x34)) else some (.cont ((-1),(IntKind.wrap .i64 (v24 + 1)),out)) else if (decide (from_ < 0)) then some (.cont (v24,(IntKind.wrap .i64 (v24 + 1)),out)) else some (.cont (from_,(IntKind.wrap .i64 (v24 + 1)),out))
noncomputable def num_Fields_A42 (s_ : Str) (from_ : Int) (out : (List Str)) : Option (List Str) :=
  if (decide (0 ≤ from_)) then (cut s_ from_ (List.length s_ : Int)).bind fun x40 => (appL 16 out [x40]).bind fun x41 => some x41 else some out
noncomputable def num_Fields_L26 (s_ : Str) (from_ : Int) (v24 : Int) (out : (List Str)) : Option (Step (Int × Int × (List Str)) (List Str)) :=
  if (decide (v24 < (List.length s_ : Int))) then (strAt s_ v24).bind fun c28 => if (decide ((c28.toNat : Int) = 32)) then num_Fields_K29 s_ from_ v24 out (decide ((c28.toNat : Int) = 32)) else if (decide ((c28.toNat : Int) = 9)) then num_Fields_K29 s_ from_ v24 out (decide ((c28.toNat : Int) = 9)) else if (decide ((c28.toNat : Int) = 10)) then num_Fields_K29 s_ from_ v24 out (decide ((c28.toNat : Int) = 10)) else num_Fields_K29 s_ from_ v24 out (decide ((c28.toNat : Int) = 13)) else (num_Fields_A42 s_ from_ out).map .done
noncomputable def num_Fields (s_ : Str) : Option (List Str) :=
  loopM (fun s => num_Fields_L26 s_ s.1 s.2.1 s.2.2) ((-1),0,([] : List Str))
noncomputable def proc_own_L8 (p : api_Procs) (v6 : Int) (l : (List api_Proc)) : Option (Step (Int × (List api_Proc)) api_Procs) :=
  if (decide (v6 < (List.length p.L : Int))) then (lsAt p.L v6).bind fun x10 => (proc_clone x10).bind fun x11 => (lsAt l v6).bind fun x12 => some (.cont ((IntKind.wrap .i64 (v6 + 1)),(List.set l (Int.toNat v6) x11))) else some (.done (api_Procs.mk p.Next p.Group l))
noncomputable def proc_own (p : api_Procs) : Option api_Procs :=
  (mkC 168 ((api_Proc.mk 0 0 0 [] [] 0 0 0 [] [] [] [] false) : api_Proc) (List.length p.L : Int) (List.length p.L : Int)).bind fun x1 => loopM (fun s => proc_own_L8 p s.1 s.2) (0,x1)
noncomputable def proc_state (n : Int) : Option Bool :=
  some ((decide (n = 1)) || ((decide (n = 2)) || (decide (n = 3))))
noncomputable def proc_Set (p : api_Procs) (id : Int) (n : Int) : Option (api_Procs × Int) :=
  (proc_own p).bind fun x1 => (proc_index x1 id).bind fun x2 => if (decide (x2 < 0)) then some (x1,42) else (proc_state n).bind fun x4 => if (!x4) then some (x1,1) else (lsAt x1.L x2).bind fun x6 => some ((api_Procs.mk x1.Next x1.Group (List.set x1.L (Int.toNat x2) (api_Proc.mk x6.Id x6.Parent n x6.User x6.Name x6.Ns x6.Env x6.Fds x6.Cwd x6.Notes x6.Status x6.Waits x6.Alone))),0)
noncomputable def proc_short (s_ : Str) : Option Bool :=
  some (decide ((List.length s_ : Int) ≤ 1024))
noncomputable def slices_Delete_api_Proc_api_Proc_o (s : (List api_Proc)) (i j : Int) : Option (List api_Proc) := delL s i j
noncomputable def proc_Exit_L17 (id : Int) (x1 : api_Procs) (x10 : (List api_Proc)) (v15 : Int) (v16 : (List api_Proc)) : Option (Step (Int × (List api_Proc)) (api_Procs × Int)) :=
  if (decide (v15 < (List.length x10 : Int))) then (lsAt v16 v15).bind fun x19 => if (decide (x19.Parent = id)) then (lsAt v16 v15).bind fun x21 => some (.cont ((IntKind.wrap .i64 (v15 + 1)),(List.set v16 (Int.toNat v15) (api_Proc.mk x21.Id 1 x21.State x21.User x21.Name x21.Ns x21.Env x21.Fds x21.Cwd x21.Notes x21.Status x21.Waits x21.Alone)))) else some (.cont ((IntKind.wrap .i64 (v15 + 1)),v16)) else some (.done ((api_Procs.mk x1.Next x1.Group v16),0))
noncomputable def proc_Exit_K8 (id : Int) (x1 : api_Procs) (x2 : Int) (p9 : (List api_Proc)) : Option (api_Procs × Int) :=
  (slices_Delete_api_Proc_api_Proc_o p9 x2 (IntKind.wrap .i64 (x2 + 1))).bind fun x10 => loopM (fun s => proc_Exit_L17 id x1 x10 s.1 s.2) (0,x10)
noncomputable def proc_Exit (p : api_Procs) (id : Int) (status : Str) : Option (api_Procs × Int) :=
  (proc_own p).bind fun x1 => (proc_index x1 id).bind fun x2 => if (decide (x2 < 0)) then some (x1,42) else if (decide (id = 1)) then some (x1,43) else (proc_short status).bind fun x5 => if (!x5) then some (x1,4) else (lsAt x1.L x2).bind fun x7 => (proc_index x1 x7.Parent).bind fun x22 => (if (decide (0 ≤ x22)) then if (!x7.Alone) then (lsAt x1.L x22).bind fun x25 => some (decide ((List.length x25.Waits : Int) < 64)) else some false else some false).bind fun t26 => if t26 then (lsAt x1.L x22).bind fun x28 => (appL 24 x28.Waits [(api_Wait.mk id status)]).bind fun x29 => (lsAt x1.L x22).bind fun x30 => proc_Exit_K8 id x1 x2 (List.set x1.L (Int.toNat x22) (api_Proc.mk x30.Id x30.Parent x30.State x30.User x30.Name x30.Ns x30.Env x30.Fds x30.Cwd x30.Notes x30.Status x29 x30.Alone)) else proc_Exit_K8 id x1 x2 x1.L
noncomputable def procfs_Control_K10 (p : api_Procs) (p11 : Int) (p12 : Int) (p13 : Int) (p14 : (List api_Proc)) : Option (api_Procs × Int) :=
  if (!decide (p11 = 0)) then (procfs_copied p).bind fun x16 => some (x16,p11) else some ((api_Procs.mk p12 p13 p14),0)
noncomputable def procfs_Control (p : api_Procs) (user : Str) (id : Int) (line : Str) : Option (api_Procs × Int) :=
  (proc_Find p id).bind fun x1 => if (!x1.2) then (procfs_copied p).bind fun x3 => some (x3,42) else if (!decide (x1.1.User = user)) then (procfs_copied p).bind fun x5 => some (x5,11) else (num_Fields line).bind fun x6 => if (!decide ((List.length x6 : Int) = 1)) then (procfs_copied p).bind fun x8 => some (x8,54) else (procfs_copied p).bind fun x9 => (lsAt x6 0).bind fun x17 => if (decide (x17 = [115,116,111,112])) then (proc_Set p id 2).bind fun x19 => procfs_Control_K10 p x19.2 x19.1.Next x19.1.Group x19.1.L else if (decide (x17 = [115,116,97,114,116])) then (proc_Set p id 1).bind fun x21 => procfs_Control_K10 p x21.2 x21.1.Next x21.1.Group x21.1.L else if (decide (x17 = [107,105,108,108])) then (proc_Exit p id [107,105,108,108,101,100]).bind fun x23 => procfs_Control_K10 p x23.2 x23.1.Next x23.1.Group x23.1.L else procfs_Control_K10 p 54 x9.Next x9.Group x9.L
noncomputable def procfs_file (p : api_Procs) (id : Int) : Option (api_Proc × Int × Bool) :=
  if (decide (id = 1)) then some ((api_Proc.mk 0 0 0 [] [] 0 0 0 [] ([] : List Str) [] ([] : List api_Wait) false),0,true) else if ((decide (id < 16)) || (decide (5 < (Int.tmod id 16)))) then some ((api_Proc.mk 0 0 0 [] [] 0 0 0 [] ([] : List Str) [] ([] : List api_Wait) false),0,false) else (proc_Find p (IntKind.wrap .i64 (Int.tdiv id 16))).bind fun x5 => some (x5.1,(Int.tmod id 16),x5.2)
noncomputable def stringslite_HasSuffix (s_ : Str) (suffix : Str) : Option Bool :=
  (if (decide ((List.length suffix : Int) ≤ (List.length s_ : Int))) then (cut s_ (IntKind.wrap .i64 ((List.length s_ : Int) - (List.length suffix : Int))) (List.length s_ : Int)).bind fun x2 => some (decide (x2 = suffix)) else some false).bind fun t3 => some t3
noncomputable def stringslite_TrimSuffix (s_ : Str) (suffix : Str) : Option Str :=
  (stringslite_HasSuffix s_ suffix).bind fun x1 => if x1 then (cut s_ 0 (IntKind.wrap .i64 ((List.length s_ : Int) - (List.length suffix : Int)))).bind fun x3 => some x3 else some s_
noncomputable def strings_TrimSuffix (s_ : Str) (suffix : Str) : Option Str :=
  (stringslite_TrimSuffix s_ suffix).bind fun x1 => some x1
noncomputable def proc_Note (p : api_Procs) (id : Int) (note : Str) : Option (api_Procs × Int) :=
  (proc_own p).bind fun x1 => (proc_index x1 id).bind fun x2 => if (decide (x2 < 0)) then some (x1,42) else (proc_short note).bind fun x4 => if (!x4) then some (x1,4) else (lsAt x1.L x2).bind fun x6 => if (decide (8 ≤ (List.length x6.Notes : Int))) then some (x1,22) else (lsAt x1.L x2).bind fun x8 => (appL 16 x8.Notes [note]).bind fun x9 => (lsAt x1.L x2).bind fun x10 => some ((api_Procs.mk x1.Next x1.Group (List.set x1.L (Int.toNat x2) (api_Proc.mk x10.Id x10.Parent x10.State x10.User x10.Name x10.Ns x10.Env x10.Fds x10.Cwd x9 x10.Status x10.Waits x10.Alone))),0)
noncomputable def procfs_Write_K8 (p : api_Procs) (data : Str) (p9 : Int) (p10 : Int) (p11 : Int) (p12 : (List api_Proc)) : Option (api_Procs × Int × Int) :=
  if (!decide (p9 = 0)) then (procfs_copied p).bind fun x14 => some (x14,0,p9) else some ((api_Procs.mk p10 p11 p12),(List.length data : Int),0)
noncomputable def procfs_Write (p : api_Procs) (user : Str) (id : Int) (data : Str) : Option (api_Procs × Int × Int) :=
  (procfs_file p id).bind fun x1 => if (!x1.2.2) then (procfs_copied p).bind fun x3 => some (x3,0,8) else if (decide (x1.2.1 = 0)) then (procfs_copied p).bind fun x5 => some (x5,0,10) else (strings_TrimSuffix data [10]).bind fun x6 => (procfs_copied p).bind fun x7 => if (decide (x1.2.1 = 1)) then (procfs_Control p user x1.1.Id x6).bind fun x16 => procfs_Write_K8 p data x16.2 x16.1.Next x16.1.Group x16.1.L else if ((decide (x1.2.1 = 3)) && (decide (x1.1.User = user))) then (proc_Note p x1.1.Id x6).bind fun x20 => procfs_Write_K8 p data x20.2 x20.1.Next x20.1.Group x20.1.L else procfs_Write_K8 p data 11 x7.Next x7.Group x7.L
noncomputable def procfs_children_L5 (id : Int) (part : Int) (out : (List Int)) : Option (Step (Int × (List Int)) (List Int)) :=
  if (decide (part ≤ 5)) then (appL 8 out [(IntKind.wrap .i64 (id + part))]).bind fun x7 => some (.cont ((IntKind.wrap .i64 (part + 1)),x7)) else some (.done out)
noncomputable def procfs_children_L13 (p : api_Procs) (v11 : Int) (out_1 : (List Int)) : Option (Step (Int × (List Int)) (List Int)) :=
  if (decide (v11 < (List.length p.L : Int))) then (lsAt p.L v11).bind fun x15 => (appL 8 out_1 [(IntKind.wrap .i64 (16 * x15.Id))]).bind fun x16 => some (.cont ((IntKind.wrap .i64 (v11 + 1)),x16)) else some (.done out_1)
noncomputable def procfs_children (p : api_Procs) (id : Int) : Option (List Int) :=
  if (!decide (id = 1)) then loopM (fun s => procfs_children_L5 id s.1 s.2) (1,([] : List Int)) else loopM (fun s => procfs_children_L13 p s.1 s.2) (0,([] : List Int))
noncomputable def procfs_name (id : Int) : Option Str :=
  if (decide (id = 1)) then some [47] else if (decide ((Int.tmod id 16) = 1)) then some [99,116,108] else if (decide ((Int.tmod id 16) = 2)) then some [115,116,97,116,117,115] else if (decide ((Int.tmod id 16) = 3)) then some [110,111,116,101] else if (decide ((Int.tmod id 16) = 4)) then some [119,97,105,116] else if (decide ((Int.tmod id 16) = 5)) then some [99,119,100] else (num_Text (IntKind.wrap .i64 (Int.tdiv id 16)) 10).bind fun x7 => some x7
noncomputable def procfs_Walk_L11 (s_ : Str) (x5 : (List Int)) (v10 : Int) : Option (Step Int (Int × Int)) :=
  if (decide (v10 < (List.length x5 : Int))) then (lsAt x5 v10).bind fun x13 => (procfs_name x13).bind fun x14 => if (decide (x14 = s_)) then some (.done (x13,0)) else some (.cont (IntKind.wrap .i64 (v10 + 1))) else some (.done (0,8))
noncomputable def procfs_Walk (p : api_Procs) (id : Int) (s_ : Str) : Option (Int × Int) :=
  (procfs_file p id).bind fun x1 => if (!x1.2.2) then some (0,8) else if (!decide (x1.2.1 = 0)) then some (0,9) else if (decide (s_ = [46,46])) then some (1,0) else (procfs_children p id).bind fun x5 => loopM (fun s => procfs_Walk_L11 s_ x5 s) 0
noncomputable def perm_has (mode : Int) (bit : Int) : Option Bool :=
  (if (decide (0 ≤ mode)) then (quoI .i64 mode bit).bind fun x2 => some (decide ((Int.tmod x2 2) = 1)) else some false).bind fun t3 => some t3
noncomputable def perm_Open_K3 (mode : Int) (p4 : Int) : Option (Int × Int) :=
  if ((decide (p4 < 0)) || (decide (3 < p4))) then some (0,12) else (lsAt [4,2,6,1] p4).bind fun x8 => (perm_has mode 16).bind fun x9 => if x9 then some ((IntKind.wrap .i64 ((BitVec.ofInt (IntKind.bits .i64) x8 ||| (BitVec.ofInt (IntKind.bits .i64) 2)).toNat : Nat)),0) else some (x8,0)
noncomputable def perm_Open_K1 (mode : Int) (p2 : Int) : Option (Int × Int) :=
  (perm_has mode 64).bind fun x11 => if x11 then perm_Open_K3 mode (IntKind.wrap .i64 (p2 - 64)) else perm_Open_K3 mode p2
noncomputable def perm_Open (mode : Int) : Option (Int × Int) :=
  (perm_has mode 16).bind fun x13 => if x13 then perm_Open_K1 mode (IntKind.wrap .i64 (mode - 16)) else perm_Open_K1 mode mode
noncomputable def procfs_mode_K2 (part : Int) (p3 : Bool) : Option Int :=
  if p3 then some 128 else if (decide (part = 4)) then some 256 else some 292
noncomputable def procfs_mode (part : Int) : Option Int :=
  if (decide (part = 0)) then some 2147484013 else if (decide (part = 1)) then procfs_mode_K2 part (decide (part = 1)) else procfs_mode_K2 part (decide (part = 3))
noncomputable def procfs_Open_K9 (how : Int) (x3 : (Int × Int)) (p10 : Int) : Option Int :=
  if ((decide (64 ≤ how)) || (!decide ((IntKind.wrap .i64 ((BitVec.ofInt (IntKind.bits .i64) x3.1 &&& ~~~ (BitVec.ofInt (IntKind.bits .i64) p10)).toNat : Nat)) = 0))) then some 11 else some 0
noncomputable def procfs_Open (p : api_Procs) (user : Str) (id : Int) (how : Int) : Option Int :=
  (procfs_file p id).bind fun x1 => if (!x1.2.2) then some 8 else (perm_Open how).bind fun x3 => if (!decide (x3.2 = 0)) then some x3.2 else if ((decide (x1.2.1 = 0)) && (!decide (how = 0))) then some 10 else (procfs_mode x1.2.1).bind fun x8 => if (decide (user = x1.1.User)) then (procfs_mode x1.2.1).bind fun x15 => procfs_Open_K9 how x3 (Int.tmod (IntKind.wrap .i64 (Int.tdiv x15 64)) 8) else procfs_Open_K9 how x3 (Int.tmod x8 8)
noncomputable def law31_awake : Option Bool :=
  (proc_New [97,110,110]).bind fun x1 => if (!decide (x1.2 = 0)) then some false else (procfs_Status (api_Proc.mk 0 1 2 [97,110,110] [114,99] 0 0 0 [] [] [] [] false)).bind fun x3 => if (!decide (x3 = [114,99,32,97,110,110,32,115,116,111,112,112,101,100,32,49,10])) then some false else (procfs_Control x1.1 [98,111,98] 1 [115,116,111,112]).bind fun x5 => if (!decide (x5.2 = 11)) then some false else (procfs_Control x1.1 [97,110,110] 1 [115,116,111,112]).bind fun x7 => (if (!decide (x7.2 = 0)) then some true else if (!decide ((List.length x7.1.L : Int) = 1)) then some true else (lsAt x7.1.L 0).bind fun x10 => some (!decide (x10.State = 2))).bind fun t11 => if t11 then some false else (procfs_Write x7.1 [97,110,110] 17 [115,116,97,114,116,10]).bind fun x13 => (procfs_Walk x1.1 1 [49]).bind fun x14 => (if (decide (x13.2.1 = 6)) then if (decide (x13.2.2 = 0)) then if (decide ((List.length x13.1.L : Int) = 1)) then (lsAt x13.1.L 0).bind fun x18 => if (decide (x18.State = 1)) then if (decide (x14.1 = 16)) then if (decide (x14.2 = 0)) then (procfs_Open x1.1 [98,111,98] 18 0).bind fun x22 => if (decide (x22 = 0)) then (procfs_Open x1.1 [98,111,98] 17 1).bind fun x24 => some (decide (x24 = 11)) else some false else some false else some false else some false else some false else some false else some false).bind fun t25 => some t25
noncomputable def ref31_state (n : Int) : Option Str :=
  if (decide (n = 1)) then some [114,101,97,100,121] else if (decide (n = 2)) then some [115,116,111,112,112,101,100] else if (decide (n = 3)) then some [98,114,111,107,101,110] else if (decide (n = 4)) then some [103,111,110,101] else some [117,110,107,110,111,119,110]
noncomputable def ref01_based (base : Int) : Option Bool :=
  some ((decide (base = 8)) || ((decide (base = 10)) || (decide (base = 16))))
noncomputable def ref01_digits_L8 (base : Int) (n_1 : Int) (s_ : Str) : Option (Step (Int × Str) Str) :=
  if ((decide (n_1 < 0)) || (decide (s_ = []))) then (remI n_1 base).bind fun x12 => (cut [48,49,50,51,52,53,54,55,56,57,97,98,99,100,101,102] (IntKind.wrap .i64 (0 - x12)) (IntKind.wrap .i64 ((IntKind.wrap .i64 (0 - x12)) + 1))).bind fun x13 => (catS x13 s_).bind fun x14 => (quoI .i64 n_1 base).bind fun x15 => some (.cont (x15,x14)) else some (.done s_)
noncomputable def ref01_digits (n : Int) (base : Int) : Option Str :=
  loopM (fun s => ref01_digits_L8 base s.1 s.2) (n,[])
noncomputable def ref01_Text (n : Int) (base : Int) : Option Str :=
  (ref01_based base).bind fun x1 => if (!x1) then some [] else if (decide (n < 0)) then (ref01_digits n base).bind fun x4 => (catS [45] x4).bind fun x5 => some x5 else (ref01_digits (IntKind.wrap .i64 (0 - n)) base).bind fun x6 => some x6
noncomputable def ref31_Status (p : api_Proc) : Option Str :=
  (catS p.Name [32]).bind fun x1 => (catS x1 p.User).bind fun x2 => (catS x2 [32]).bind fun x3 => (ref31_state p.State).bind fun x4 => (catS x3 x4).bind fun x5 => (catS x5 [32]).bind fun x6 => (ref01_Text p.Parent 10).bind fun x7 => (catS x6 x7).bind fun x8 => (catS x8 [10]).bind fun x9 => some x9
noncomputable def law31_ProcfsStatus (x_ : api_Proc) : Option Bool :=
  (law31_slight x_).bind fun x1 => if (!x1) then (law31_awake).bind fun x3 => some x3 else (procfs_Status x_).bind fun x4 => (ref31_Status x_).bind fun x5 => (if (decide (x4 = x5)) then (law31_awake).bind fun x7 => some x7 else some false).bind fun t8 => some t8
end Go.Proofs.YtgmlbldjdhonjaaDoor
