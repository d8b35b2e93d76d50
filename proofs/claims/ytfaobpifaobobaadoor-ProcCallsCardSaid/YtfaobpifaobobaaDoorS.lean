import Derived.Test.YtfaobpifaobobaaDoorVmX
import Derived.Test.YtfaobpifaobobaaDoorVmB
namespace Go.Proofs.YtfaobpifaobobaaDoor
open Go.Vm
set_option autoImplicit false
set_option linter.unusedVariables false
set_option linter.unusedSimpArgs false
set_option maxRecDepth 100000
abbrev Str := List UInt8
structure api_Wait where
  Id : Int
  Status : Str
  deriving Inhabited
def zE1 (x : api_Wait) : PV := .agg [.int .i64 x.Id,.str x.Status]
structure api_Proc where
  Id : Int
  Parent : Int
  State : Int
  User : Str
  Name : Str
  Ns : Int
  Env : Int
  Fds : Int
  Cwd : Str
  Notes : (List Str)
  Status : Str
  Waits : (List api_Wait)
  Alone : Bool
  deriving Inhabited
def zE2 (x : api_Proc) : PV := .agg [.int .i64 x.Id,.int .i64 x.Parent,.int .i64 x.State,.str x.User,.str x.Name,.int .i64 x.Ns,.int .i64 x.Env,.int .i64 x.Fds,.str x.Cwd,.sl none (List.map PV.str x.Notes),.str x.Status,.sl (some 2) (List.map zE1 x.Waits),.bool x.Alone]
structure api_Procs where
  Next : Int
  Group : Int
  L : (List api_Proc)
  deriving Inhabited
def zE3 (x : api_Procs) : PV := .agg [.int .i64 x.Next,.int .i64 x.Group,.sl (some 13) (List.map zE2 x.L)]
structure law30_Op where
  Kind : Int
  Id : Int
  N : Int
  Text : Str
  deriving Inhabited
def zE4 (x : law30_Op) : PV := .agg [.int .i64 x.Kind,.int .i64 x.Id,.int .i64 x.N,.str x.Text]
structure law30_result where
  N : Int
  W : api_Wait
  S : Str
  Ok : Bool
  Err : Int
  None : Bool
  deriving Inhabited
def zE5 (x : law30_result) : PV := .agg [.int .i64 x.N,.int .i64 x.W.Id,.str x.W.Status,.str x.S,.bool x.Ok,.int .i64 x.Err,.bool x.None]
noncomputable def user_Valid_L17 (name : Str) (v16 : Int) : Option (Step Int Bool) :=
  if (decide (v16 < (List.length name : Int))) then (strAt name v16).bind fun c19 => if ((!((decide (97 ≤ (c19.toNat : Int))) && (decide ((c19.toNat : Int) ≤ 122)))) && ((decide (v16 = 0)) || (!(if (decide (48 ≤ (c19.toNat : Int))) then ((decide ((c19.toNat : Int) ≤ 57)) || ((decide ((c19.toNat : Int) = 45)) || (decide ((c19.toNat : Int) = 95)))) else ((decide ((c19.toNat : Int) = 45)) || (decide ((c19.toNat : Int) = 95))))))) then some (.done false) else some (.cont (IntKind.wrap .i64 (v16 + 1))) else some (.done true)
noncomputable def user_Valid (name : Str) : Option Bool :=
  if ((decide (name = [])) || (decide (32 < (List.length name : Int)))) then some false else loopM (fun s => user_Valid_L17 name s) 0
noncomputable def proc_New (name : Str) : Option (api_Procs × Int) :=
  (user_Valid name).bind fun x1 => if (!x1) then some ((api_Procs.mk 0 0 ([] : List api_Proc)),25) else some ((api_Procs.mk 2 2 [(api_Proc.mk 1 0 1 name [] 1 1 1 [47] ([] : List Str) [] ([] : List api_Wait) false)]),0)
noncomputable def slices_Clone_string_string_n : Option (List Str) :=
  some ([] : List Str)
noncomputable def slices_Clone_string_string_e : Option (List Str) :=
  (appL 16 ([] : List Str) []).bind fun x1 => some x1
noncomputable def slices_Clone_string_string (s_ : (List Str)) : Option (List Str) :=
  (appL 16 ([] : List Str) s_).bind fun x1 => some x1
noncomputable def slices_Clone_api_Wait_api_Wait_n : Option (List api_Wait) :=
  some ([] : List api_Wait)
noncomputable def slices_Clone_api_Wait_api_Wait_e : Option (List api_Wait) :=
  (appL 24 ([] : List api_Wait) []).bind fun x1 => some x1
noncomputable def slices_Clone_api_Wait_api_Wait (s_ : (List api_Wait)) : Option (List api_Wait) :=
  (appL 24 ([] : List api_Wait) s_).bind fun x1 => some x1
noncomputable def proc_clone (x_ : api_Proc) : Option api_Proc :=
  (slices_Clone_string_string x_.Notes).bind fun x1 => (slices_Clone_api_Wait_api_Wait x_.Waits).bind fun x2 => some (api_Proc.mk x_.Id x_.Parent x_.State x_.User x_.Name x_.Ns x_.Env x_.Fds x_.Cwd x1 x_.Status x2 x_.Alone)
noncomputable def proc_own_L8 (p : api_Procs) (v6 : Int) (l : (List api_Proc)) : Option (Step (Int × (List api_Proc)) api_Procs) :=
  if (decide (v6 < (List.length p.L : Int))) then (lsAt p.L v6).bind fun x10 => (proc_clone x10).bind fun x11 => (lsAt l v6).bind fun x12 => some (.cont ((IntKind.wrap .i64 (v6 + 1)),(List.set l (Int.toNat v6) x11))) else some (.done (api_Procs.mk p.Next p.Group l))
noncomputable def proc_own (p : api_Procs) : Option api_Procs :=
  (mkC 168 ((api_Proc.mk 0 0 0 [] [] 0 0 0 [] [] [] [] false) : api_Proc) (List.length p.L : Int) (List.length p.L : Int)).bind fun x1 => loopM (fun s => proc_own_L8 p s.1 s.2) (0,x1)
noncomputable def proc_index_1 (x_ : api_Proc) (a1 : Int) : Option Bool :=
  some (decide (x_.Id = a1))
noncomputable def slices_IndexFunc_api_Proc_api_Proc_f50_L6 (s_ : (List api_Proc)) (f : Int) (v5 : Int) : Option (Step Int Int) :=
  if (decide (v5 < (List.length s_ : Int))) then (lsAt s_ v5).bind fun x8 => (proc_index_1 x8 f).bind fun x9 => if x9 then some (.done v5) else some (.cont (IntKind.wrap .i64 (v5 + 1))) else some (.done (-1))
noncomputable def slices_IndexFunc_api_Proc_api_Proc_f50 (s_ : (List api_Proc)) (f : Int) : Option Int :=
  loopM (fun s => slices_IndexFunc_api_Proc_api_Proc_f50_L6 s_ f s) 0
noncomputable def proc_index (p : api_Procs) (id : Int) : Option Int :=
  (slices_IndexFunc_api_Proc_api_Proc_f50 p.L id).bind fun x1 => some x1
noncomputable def proc_Await_1 (x_ : api_Proc) (a1 : Int) : Option Bool :=
  some ((decide (x_.Parent = a1)) && (!x_.Alone))
noncomputable def slices_IndexFunc_api_Proc_api_Proc_f35_L6 (s_ : (List api_Proc)) (f : Int) (v5 : Int) : Option (Step Int Int) :=
  if (decide (v5 < (List.length s_ : Int))) then (lsAt s_ v5).bind fun x8 => (proc_Await_1 x8 f).bind fun x9 => if x9 then some (.done v5) else some (.cont (IntKind.wrap .i64 (v5 + 1))) else some (.done (-1))
noncomputable def slices_IndexFunc_api_Proc_api_Proc_f35 (s_ : (List api_Proc)) (f : Int) : Option Int :=
  loopM (fun s => slices_IndexFunc_api_Proc_api_Proc_f35_L6 s_ f s) 0
noncomputable def slices_ContainsFunc_api_Proc_api_Proc_f35 (s_ : (List api_Proc)) (f : Int) : Option Bool :=
  (slices_IndexFunc_api_Proc_api_Proc_f35 s_ f).bind fun x1 => some (decide (0 ≤ x1))
noncomputable def proc_Await (p : api_Procs) (id : Int) : Option (api_Procs × api_Wait × Bool × Int) :=
  (proc_own p).bind fun x1 => (proc_index x1 id).bind fun x2 => if (decide (x2 < 0)) then some (x1,(api_Wait.mk 0 []),false,42) else (lsAt x1.L x2).bind fun x4 => if (decide (0 < (List.length x4.Waits : Int))) then (cut x4.Waits 1 (List.length x4.Waits : Int)).bind fun x6 => (lsAt x1.L x2).bind fun x7 => (lsAt x4.Waits 0).bind fun x8 => some ((api_Procs.mk x1.Next x1.Group (List.set x1.L (Int.toNat x2) (api_Proc.mk x7.Id x7.Parent x7.State x7.User x7.Name x7.Ns x7.Env x7.Fds x7.Cwd x7.Notes x7.Status x6 x7.Alone))),x8,false,0) else (slices_ContainsFunc_api_Proc_api_Proc_f35 x1.L id).bind fun x9 => if x9 then some (x1,(api_Wait.mk 0 []),true,0) else some (x1,(api_Wait.mk 0 []),false,42)
noncomputable def proc_contradicts_L3 (flags : Int) (v2 : Int) : Option (Step Int Bool) :=
  if (decide (v2 < 3)) then (lsAt [9,18,36] v2).bind fun x5 => if (decide ((IntKind.wrap .i64 ((BitVec.ofInt (IntKind.bits .i64) flags &&& (BitVec.ofInt (IntKind.bits .i64) x5)).toNat : Nat)) = x5)) then some (.done true) else some (.cont (IntKind.wrap .i64 (v2 + 1))) else some (.done false)
noncomputable def proc_contradicts (flags : Int) : Option Bool :=
  loopM (fun s => proc_contradicts_L3 flags s) 0
noncomputable def proc_Fork_K7 (id : Int) (flags : Int) (x1 : api_Procs) (x2 : Int) (p8 : Bool) : Option (api_Procs × Int × Int) :=
  if p8 then some (x1,0,22) else (lsAt x1.L x2).bind fun x10 => (appL 168 x1.L [(api_Proc.mk x1.Next id 1 x10.User x10.Name (if (nzAnd flags 9) = true then x1.Group else x10.Ns) (if (nzAnd flags 18) = true then (if (nzAnd flags 9) = true then IntKind.wrap .i64 (x1.Group + 1) else x1.Group) else x10.Env) (if (nzAnd flags 36) = true then (if (nzAnd flags 18) = true then IntKind.wrap .i64 ((if (nzAnd flags 9) = true then IntKind.wrap .i64 (x1.Group + 1) else x1.Group) + 1) else (if (nzAnd flags 9) = true then IntKind.wrap .i64 (x1.Group + 1) else x1.Group)) else x10.Fds) x10.Cwd ([] : List Str) [] ([] : List api_Wait) (!decide ((IntKind.wrap .i64 ((BitVec.ofInt (IntKind.bits .i64) flags &&& (BitVec.ofInt (IntKind.bits .i64) 64)).toNat : Nat)) = 0)))]).bind fun x11 => some ((api_Procs.mk (IntKind.wrap .i64 (x1.Next + 1)) (if (nzAnd flags 36) = true then IntKind.wrap .i64 ((if (nzAnd flags 18) = true then IntKind.wrap .i64 ((if (nzAnd flags 9) = true then IntKind.wrap .i64 (x1.Group + 1) else x1.Group) + 1) else (if (nzAnd flags 9) = true then IntKind.wrap .i64 (x1.Group + 1) else x1.Group)) + 1) else (if (nzAnd flags 18) = true then IntKind.wrap .i64 ((if (nzAnd flags 9) = true then IntKind.wrap .i64 (x1.Group + 1) else x1.Group) + 1) else (if (nzAnd flags 9) = true then IntKind.wrap .i64 (x1.Group + 1) else x1.Group))) x11),x1.Next,0)
noncomputable def proc_Fork_K4 (id : Int) (flags : Int) (x1 : api_Procs) (x2 : Int) (p5 : Bool) : Option (api_Procs × Int × Int) :=
  if p5 then some (x1,0,1) else if (decide (64 ≤ (List.length x1.L : Int))) then proc_Fork_K7 id flags x1 x2 (decide (64 ≤ (List.length x1.L : Int))) else if (decide (1048575 < x1.Next)) then proc_Fork_K7 id flags x1 x2 (decide (1048575 < x1.Next)) else proc_Fork_K7 id flags x1 x2 (decide (1099511627774 < x1.Group))
noncomputable def proc_Fork (p : api_Procs) (id : Int) (flags : Int) : Option (api_Procs × Int × Int) :=
  (proc_own p).bind fun x1 => (proc_index x1 id).bind fun x2 => if (decide (x2 < 0)) then some (x1,0,42) else if (decide (flags < 0)) then proc_Fork_K4 id flags x1 x2 (decide (flags < 0)) else if (!decide ((IntKind.wrap .i64 ((BitVec.ofInt (IntKind.bits .i64) flags &&& ~~~ (BitVec.ofInt (IntKind.bits .i64) 127)).toNat : Nat)) = 0)) then proc_Fork_K4 id flags x1 x2 (!decide ((IntKind.wrap .i64 ((BitVec.ofInt (IntKind.bits .i64) flags &&& ~~~ (BitVec.ofInt (IntKind.bits .i64) 127)).toNat : Nat)) = 0)) else (proc_contradicts flags).bind fun x16 => proc_Fork_K4 id flags x1 x2 x16
noncomputable def proc_Find (p : api_Procs) (id : Int) : Option (api_Proc × Bool) :=
  (proc_index p id).bind fun x1 => if (decide (x1 < 0)) then some ((api_Proc.mk 0 0 0 [] [] 0 0 0 [] ([] : List Str) [] ([] : List api_Wait) false),false) else (lsAt p.L x1).bind fun x3 => (proc_clone x3).bind fun x4 => some (x4,true)
noncomputable def proc_short (s_ : Str) : Option Bool :=
  some (decide ((List.length s_ : Int) ≤ 1024))
noncomputable def slices_Delete_api_Proc_api_Proc_o (s : (List api_Proc)) (i j : Int) : Option (List api_Proc) := delL s i j
noncomputable def proc_Exit_L17 (id : Int) (x1 : api_Procs) (x10 : (List api_Proc)) (v15 : Int) (v16 : (List api_Proc)) : Option (Step (Int × (List api_Proc)) (api_Procs × Int)) :=
  if (decide (v15 < (List.length x10 : Int))) then (lsAt v16 v15).bind fun x19 => if (decide (x19.Parent = id)) then (lsAt v16 v15).bind fun x21 => some (.cont ((IntKind.wrap .i64 (v15 + 1)),(List.set v16 (Int.toNat v15) (api_Proc.mk x21.Id 1 x21.State x21.User x21.Name x21.Ns x21.Env x21.Fds x21.Cwd x21.Notes x21.Status x21.Waits x21.Alone)))) else some (.cont ((IntKind.wrap .i64 (v15 + 1)),v16)) else some (.done ((api_Procs.mk x1.Next x1.Group v16),0))
noncomputable def proc_Exit_K8 (id : Int) (x1 : api_Procs) (x2 : Int) (p9 : (List api_Proc)) : Option (api_Procs × Int) :=
  (slices_Delete_api_Proc_api_Proc_o p9 x2 (IntKind.wrap .i64 (x2 + 1))).bind fun x10 => loopM (fun s => proc_Exit_L17 id x1 x10 s.1 s.2) (0,x10)
noncomputable def proc_Exit (p : api_Procs) (id : Int) (status : Str) : Option (api_Procs × Int) :=
  (proc_own p).bind fun x1 => (proc_index x1 id).bind fun x2 => if (decide (x2 < 0)) then some (x1,42) else if (decide (id = 1)) then some (x1,43) else (proc_short status).bind fun x5 => if (!x5) then some (x1,4) else (lsAt x1.L x2).bind fun x7 => (proc_index x1 x7.Parent).bind fun x22 => (if (decide (0 ≤ x22)) then if (!x7.Alone) then (lsAt x1.L x22).bind fun x25 => some (decide ((List.length x25.Waits : Int) < 64)) else some false else some false).bind fun t26 => if t26 then (lsAt x1.L x22).bind fun x28 => (appL 24 x28.Waits [(api_Wait.mk id status)]).bind fun x29 => (lsAt x1.L x22).bind fun x30 => proc_Exit_K8 id x1 x2 (List.set x1.L (Int.toNat x22) (api_Proc.mk x30.Id x30.Parent x30.State x30.User x30.Name x30.Ns x30.Env x30.Fds x30.Cwd x30.Notes x30.Status x29 x30.Alone)) else proc_Exit_K8 id x1 x2 x1.L
noncomputable def proc_family (p : api_Procs) (i : Int) : Option Bool :=
  (lsAt p.L i).bind fun x1 => if (decide (i = 0)) then some ((decide (x1.Id = 1)) && (decide (x1.Parent = 0))) else (lsAt p.L (IntKind.wrap .i64 (i - 1))).bind fun x5 => (if (decide (x5.Id < x1.Id)) then if (decide (x1.Parent < x1.Id)) then (proc_index p x1.Parent).bind fun x8 => some (decide (0 ≤ x8)) else some false else some false).bind fun t9 => some t9
noncomputable def proc_state (n : Int) : Option Bool :=
  some ((decide (n = 1)) || ((decide (n = 2)) || (decide (n = 3))))
noncomputable def path_Valid_L15 (name : Str) (v14 : Int) : Option (Step Int Bool) :=
  if (decide (v14 < (List.length name : Int))) then (strAt name v14).bind fun c17 => (if (decide ((c17.toNat : Int) < 33)) then some true else (strAt name v14).bind fun c19 => if (decide (126 < (c19.toNat : Int))) then some true else (strAt name v14).bind fun c21 => some (decide ((c21.toNat : Int) = 47))).bind fun t22 => if t22 then some (.done false) else some (.cont (IntKind.wrap .i64 (v14 + 1))) else some (.done true)
noncomputable def path_Valid (name : Str) : Option Bool :=
  if ((decide (name = [])) || ((decide (name = [46])) || ((decide (name = [46,46])) || (decide (64 < (List.length name : Int)))))) then some false else loopM (fun s => path_Valid_L15 name s) 0
noncomputable def unicode_utf8_RuneCountInString (s_ : Str) : Option Int :=
  none
noncomputable def unicode_utf8_decodeRuneInStringSlow (s_ : Str) : Option (Int × Int) :=
  if (decide ((List.length s_ : Int) < 1)) then some (65533,0) else (strAt s_ 0).bind fun c2 => none
noncomputable def unicode_utf8_DecodeRuneInString (s_ : Str) : Option (Int × Int) :=
  (if (!decide (s_ = [])) then (strAt s_ 0).bind fun c2 => some (decide ((c2.toNat : Int) < 128)) else some false).bind fun t3 => if t3 then (strAt s_ 0).bind fun c5 => some ((IntKind.wrap .i32 (c5.toNat : Int)),1) else (unicode_utf8_decodeRuneInStringSlow s_).bind fun x6 => some (x6.1,x6.2)
noncomputable def strings_explode_A21 (p3 : Int) (s__1 : Str) (a : (List Str)) : Option (List Str) :=
  if (decide (0 < p3)) then (lsAt a (IntKind.wrap .i64 (p3 - 1))).bind fun x20 => some (List.set a (Int.toNat (IntKind.wrap .i64 (p3 - 1))) s__1) else some a
noncomputable def strings_explode_L13 (p3 : Int) (s__1 : Str) (i : Int) (a : (List Str)) : Option (Step (Str × Int × (List Str)) (List Str)) :=
  if (decide (i < (IntKind.wrap .i64 (p3 - 1)))) then (unicode_utf8_DecodeRuneInString s__1).bind fun x15 => (cut s__1 0 x15.2).bind fun x16 => (lsAt a i).bind fun x17 => (cut s__1 x15.2 (List.length s__1 : Int)).bind fun x18 => some (.cont (x18,(IntKind.wrap .i64 (i + 1)),(List.set a (Int.toNat i) x16))) else (strings_explode_A21 p3 s__1 a).map .done
noncomputable def strings_explode_K2 (s_ : Str) (p3 : Int) : Option (List Str) :=
  (mkC 16 ([] : Str) p3 p3).bind fun x4 => loopM (fun s => strings_explode_L13 p3 s.1 s.2.1 s.2.2) (s_,0,x4)
noncomputable def strings_explode (s_ : Str) (n : Int) : Option (List Str) :=
  (unicode_utf8_RuneCountInString s_).bind fun x1 => if ((decide (n < 0)) || (decide (x1 < n))) then strings_explode_K2 s_ x1 else strings_explode_K2 s_ n
noncomputable def strings_Count (a0 : Str) (a1 : Str) : Option Int := xCount a0 a1
noncomputable def strings_Index (a0 : Str) (a1 : Str) : Option Int := xIndex a0 a1
noncomputable def strings_genSplit_K7 (p8 : Str) (p9 : Int) (p10 : (List Str)) : Option (List Str) :=
  (lsAt p10 p9).bind fun x11 => (cut (List.set p10 (Int.toNat p9) p8) 0 (IntKind.wrap .i64 (p9 + 1))).bind fun x12 => some x12
noncomputable def strings_genSplit_L22 (s_ : Str) (sep : Str) (sepSave : Int) (p5 : Int) (s__2 : Str) (i_1 : Int) (a_1 : (List Str)) : Option (Step (Str × Int × (List Str)) (List Str)) :=
  if (decide (i_1 < (IntKind.wrap .i64 ((min p5 (IntKind.wrap .i64 ((List.length s_ : Int) + 1))) - 1)))) then (strings_Index s__2 sep).bind fun x24 => if (decide (x24 < 0)) then (strings_genSplit_K7 s__2 i_1 a_1).map .done else (cut s__2 0 (IntKind.wrap .i64 (x24 + sepSave))).bind fun x26 => (lsAt a_1 i_1).bind fun x27 => (cut s__2 (IntKind.wrap .i64 (x24 + (List.length sep : Int))) (List.length s__2 : Int)).bind fun x28 => some (.cont (x28,(IntKind.wrap .i64 (i_1 + 1)),(List.set a_1 (Int.toNat i_1) x26))) else (strings_genSplit_K7 s__2 i_1 a_1).map .done
noncomputable def strings_genSplit_K4 (s_ : Str) (sep : Str) (sepSave : Int) (p5 : Int) : Option (List Str) :=
  (mkC 16 ([] : Str) (min p5 (IntKind.wrap .i64 ((List.length s_ : Int) + 1))) (min p5 (IntKind.wrap .i64 ((List.length s_ : Int) + 1)))).bind fun x6 => loopM (fun s => strings_genSplit_L22 s_ sep sepSave p5 s.1 s.2.1 s.2.2) (s_,0,x6)
noncomputable def strings_genSplit (s_ : Str) (sep : Str) (sepSave : Int) (n : Int) : Option (List Str) :=
  if (decide (n = 0)) then some ([] : List Str) else if (decide (sep = [])) then (strings_explode s_ n).bind fun x3 => some x3 else if (decide (n < 0)) then (strings_Count s_ sep).bind fun x30 => strings_genSplit_K4 s_ sep sepSave (IntKind.wrap .i64 (x30 + 1)) else strings_genSplit_K4 s_ sep sepSave n
noncomputable def strings_Split (s_ : Str) (sep : Str) : Option (List Str) :=
  (strings_genSplit s_ sep 0 (-1)).bind fun x1 => some x1
noncomputable def stringslite_HasPrefix (s_ : Str) (prefix_ : Str) : Option Bool :=
  (if (decide ((List.length prefix_ : Int) ≤ (List.length s_ : Int))) then (cut s_ 0 (List.length prefix_ : Int)).bind fun x2 => some (decide (x2 = prefix_)) else some false).bind fun t3 => some t3
noncomputable def strings_HasPrefix (s_ : Str) (prefix_ : Str) : Option Bool :=
  (stringslite_HasPrefix s_ prefix_).bind fun x1 => some x1
noncomputable def path_rooted (p : Str) : Option Bool :=
  (strings_HasPrefix p [47]).bind fun x1 => some x1
noncomputable def path_Split_A43 (out : (List Str)) : Option ((List Str) × Int) :=
  if (decide (32 < (List.length out : Int))) then some (([] : List Str),4) else some (out,0)
noncomputable def path_Split_L23 (p : Str) (x2 : (List Str)) (v21 : Int) (out : (List Str)) : Option (Step (Int × (List Str)) ((List Str) × Int)) :=
  if (decide (v21 < (List.length x2 : Int))) then (lsAt x2 v21).bind fun x25 => if ((decide (x25 = [])) || (decide (x25 = [46]))) then some (.cont ((IntKind.wrap .i64 (v21 + 1)),out)) else (if (decide (x25 = [46,46])) then if (decide (0 ≤ (IntKind.wrap .i64 ((List.length out : Int) - 1)))) then (lsAt out (IntKind.wrap .i64 ((List.length out : Int) - 1))).bind fun x31 => some (!decide (x31 = [46,46])) else some false else some false).bind fun t32 => if t32 then (cut out 0 (IntKind.wrap .i64 ((List.length out : Int) - 1))).bind fun x34 => some (.cont ((IntKind.wrap .i64 (v21 + 1)),x34)) else if (decide (x25 = [46,46])) then (path_rooted p).bind fun x36 => if (!x36) then (appL 16 out [x25]).bind fun x38 => some (.cont ((IntKind.wrap .i64 (v21 + 1)),x38)) else some (.cont ((IntKind.wrap .i64 (v21 + 1)),out)) else (path_Valid x25).bind fun x39 => if (!x39) then some (.done (([] : List Str),6)) else (appL 16 out [x25]).bind fun x41 => some (.cont ((IntKind.wrap .i64 (v21 + 1)),x41)) else (path_Split_A43 out).map .done
noncomputable def path_Split (p : Str) : Option ((List Str) × Int) :=
  if (decide (1024 < (List.length p : Int))) then some (([] : List Str),4) else (strings_Split p [47]).bind fun x2 => loopM (fun s => path_Split_L23 p x2 s.1 s.2) (0,([] : List Str))
noncomputable def strings_Join (a0 : (List Str)) (a1 : Str) : Option Str := xJoin a0 a1
noncomputable def path_build (l : (List Str)) (root : Bool) : Option Str :=
  if root then (strings_Join l [47]).bind fun x2 => (catS [47] x2).bind fun x3 => some x3 else if (decide ((List.length l : Int) = 0)) then some [46] else (strings_Join l [47]).bind fun x5 => some x5
noncomputable def path_Clean (p : Str) : Option (Str × Int) :=
  (path_Split p).bind fun x1 => if (!decide (x1.2 = 0)) then some ([],x1.2) else (path_rooted p).bind fun x3 => (path_build x1.1 x3).bind fun x4 => some (x4,0)
noncomputable def proc_rooted (s_ : Str) : Option Bool :=
  (path_Clean s_).bind fun x1 => (if (decide (x1.2 = 0)) then if (decide (x1.1 = s_)) then if (!decide (s_ = [])) then (strAt s_ 0).bind fun c5 => some (decide ((c5.toNat : Int) = 47)) else some false else some false else some false).bind fun t6 => some t6
noncomputable def proc_fields_L45 (p : api_Procs) (x_ : api_Proc) (v44 : Int) : Option (Step Int Bool) :=
  if (decide (v44 < (List.length x_.Waits : Int))) then (lsAt x_.Waits v44).bind fun x47 => (if (decide (x47.Id < 1)) then some true else if (decide (p.Next ≤ x47.Id)) then some true else (proc_short x47.Status).bind fun x50 => some (!x50)).bind fun t51 => if t51 then some (.done false) else some (.cont (IntKind.wrap .i64 (v44 + 1))) else some (.done true)
noncomputable def proc_fields_L32 (p : api_Procs) (x_ : api_Proc) (v31 : Int) : Option (Step Int Bool) :=
  if (decide (v31 < (List.length x_.Notes : Int))) then (lsAt x_.Notes v31).bind fun x34 => (proc_short x34).bind fun x35 => if (!x35) then some (.done false) else some (.cont (IntKind.wrap .i64 (v31 + 1))) else (loopM (fun s => proc_fields_L45 p x_ s) 0).map .done
noncomputable def proc_fields_A53 (p : api_Procs) (x_ : api_Proc) : Option Bool :=
  if ((decide (8 < (List.length x_.Notes : Int))) || (decide (64 < (List.length x_.Waits : Int)))) then some false else loopM (fun s => proc_fields_L32 p x_ s) 0
noncomputable def proc_fields_L18 (p : api_Procs) (x_ : api_Proc) (v17 : Int) : Option (Step Int Bool) :=
  if (decide (v17 < 3)) then (lsAt [x_.Ns,x_.Env,x_.Fds] v17).bind fun x20 => if ((decide (x20 < 1)) || (decide (p.Group ≤ x20))) then some (.done false) else some (.cont (IntKind.wrap .i64 (v17 + 1))) else (proc_fields_A53 p x_).map .done
noncomputable def proc_fields (p : api_Procs) (x_ : api_Proc) : Option Bool :=
  (proc_state x_.State).bind fun x1 => (if (!x1) then some true else (user_Valid x_.User).bind fun x3 => if (!x3) then some true else if (!decide (x_.Name = [])) then (path_Valid x_.Name).bind fun x6 => if (!x6) then some true else (proc_rooted x_.Cwd).bind fun x8 => if (!x8) then some true else some (!decide (x_.Status = [])) else (proc_rooted x_.Cwd).bind fun x10 => if (!x10) then some true else some (!decide (x_.Status = []))).bind fun t12 => if t12 then some false else loopM (fun s => proc_fields_L18 p x_ s) 0
noncomputable def proc_Right_L17 (p : api_Procs) (v16 : Int) : Option (Step Int Bool) :=
  if (decide (v16 < (List.length p.L : Int))) then (lsAt p.L v16).bind fun x19 => (proc_family p v16).bind fun x20 => (if (!x20) then some true else (proc_fields p x19).bind fun x22 => some (!x22)).bind fun t23 => if t23 then some (.done false) else some (.cont (IntKind.wrap .i64 (v16 + 1))) else some (.done true)
noncomputable def proc_Right (p : api_Procs) : Option Bool :=
  (if (decide ((List.length p.L : Int) < 1)) then some true else if (decide (64 < (List.length p.L : Int))) then some true else (lsAt p.L (IntKind.wrap .i64 ((List.length p.L : Int) - 1))).bind fun x3 => if (decide (p.Next ≤ x3.Id)) then some true else if (decide (1048576 < p.Next)) then some true else if (decide (p.Group < 2)) then some true else some (decide (1099511627777 < p.Group))).bind fun t7 => if t7 then some false else loopM (fun s => proc_Right_L17 p s) 0
noncomputable def law30_awake : Option Bool :=
  (proc_New [97,110,110]).bind fun x1 => if (!decide (x1.2 = 0)) then some false else (proc_Await x1.1 1).bind fun x3 => if (!decide (x3.2.2.2 = 42)) then some false else (proc_Fork x1.1 1 5).bind fun x5 => (proc_Find x5.1 2).bind fun x6 => if ((!decide (x5.2.2 = 0)) || ((!decide (x5.2.1 = 2)) || ((!x6.2) || ((!decide (x6.1.Ns = 2)) || ((!decide (x6.1.Env = 1)) || ((!decide (x6.1.Fds = 3)) || (!decide (x6.1.Parent = 1)))))))) then some false else (proc_Await x5.1 1).bind fun x15 => if ((!x15.2.2.1) || (!decide (x15.2.2.2 = 0))) then some false else (proc_Exit x5.1 2 [100,111,110,101]).bind fun x19 => if (!decide (x19.2 = 0)) then some false else (proc_Await x19.1 1).bind fun x21 => (if (decide (x21.2.1.Id = 2) && (decide (x21.2.1.Status = [100,111,110,101]) && true)) then if (!x21.2.2.1) then if (decide (x21.2.2.2 = 0)) then (proc_Right x21.1).bind fun x25 => if x25 then some (decide ((List.length x21.1.L : Int) = 1)) else some false else some false else some false else some false).bind fun t27 => some t27
noncomputable def ref05_Valid_L12 (name : Str) (i : Int) : Option (Step Int Bool) :=
  if (decide (i < (List.length name : Int))) then (strAt name i).bind fun c14 => if ((!((decide (97 ≤ (c14.toNat : Int))) && (decide ((c14.toNat : Int) ≤ 122)))) && ((decide (i = 0)) || (if (decide (48 ≤ (c14.toNat : Int))) then ((!(decide ((c14.toNat : Int) ≤ 57))) && ((!decide ((c14.toNat : Int) = 45)) && (!decide ((c14.toNat : Int) = 95)))) else ((!decide ((c14.toNat : Int) = 45)) && (!decide ((c14.toNat : Int) = 95)))))) then some (.done false) else some (.cont (IntKind.wrap .i64 (i + 1))) else some (.done true)
noncomputable def ref05_Valid (name : Str) : Option Bool :=
  if ((decide ((List.length name : Int) < 1)) || (decide (32 < (List.length name : Int)))) then some false else loopM (fun s => ref05_Valid_L12 name s) 0
noncomputable def ref30_Equal_L19 (a : api_Proc) (b : api_Proc) (i_1 : Int) : Option (Step Int Bool) :=
  if (decide (i_1 < (List.length a.Waits : Int))) then (lsAt a.Waits i_1).bind fun x21 => (lsAt b.Waits i_1).bind fun x22 => if (!(decide (x21.Id = x22.Id) && (decide (x21.Status = x22.Status) && true))) then some (.done false) else some (.cont (IntKind.wrap .i64 (i_1 + 1))) else some (.done ((decide (a.Id = b.Id)) && ((decide (a.Parent = b.Parent)) && ((decide (a.State = b.State)) && ((decide (a.User = b.User)) && ((decide (a.Name = b.Name)) && ((decide (a.Ns = b.Ns)) && ((decide (a.Env = b.Env)) && ((decide (a.Fds = b.Fds)) && ((decide (a.Cwd = b.Cwd)) && ((decide (a.Status = b.Status)) && (decide (a.Alone = b.Alone)))))))))))))
noncomputable def ref30_Equal_L9 (a : api_Proc) (b : api_Proc) (i : Int) : Option (Step Int Bool) :=
  if (decide (i < (List.length a.Notes : Int))) then (lsAt a.Notes i).bind fun x11 => (lsAt b.Notes i).bind fun x12 => if (!decide (x11 = x12)) then some (.done false) else some (.cont (IntKind.wrap .i64 (i + 1))) else (loopM (fun s => ref30_Equal_L19 a b s) 0).map .done
noncomputable def ref30_Equal (a : api_Proc) (b : api_Proc) : Option Bool :=
  if ((!decide ((List.length a.Notes : Int) = (List.length b.Notes : Int))) || (!decide ((List.length a.Waits : Int) = (List.length b.Waits : Int)))) then some false else loopM (fun s => ref30_Equal_L9 a b s) 0
noncomputable def ref30_Same_L11 (a : api_Procs) (b : api_Procs) (i : Int) : Option (Step Int Bool) :=
  if (decide (i < (List.length a.L : Int))) then (lsAt a.L i).bind fun x13 => (lsAt b.L i).bind fun x14 => (ref30_Equal x13 x14).bind fun x15 => if (!x15) then some (.done false) else some (.cont (IntKind.wrap .i64 (i + 1))) else some (.done true)
noncomputable def ref30_Same (a : api_Procs) (b : api_Procs) : Option Bool :=
  if ((!decide (a.Next = b.Next)) || ((!decide (a.Group = b.Group)) || (!decide ((List.length a.L : Int) = (List.length b.L : Int))))) then some false else loopM (fun s => ref30_Same_L11 a b s) 0
noncomputable def law30_small_L50 (v27 : Int) (x30 : api_Proc) (v49 : Int) : Option (Step Int (Step Int Bool)) :=
  if (decide (v49 < (List.length x30.Waits : Int))) then (lsAt x30.Waits v49).bind fun x52 => if (decide (1100 < (List.length x52.Status : Int))) then some (.done (.done false)) else some (.cont (IntKind.wrap .i64 (v49 + 1))) else some (.done (.cont (IntKind.wrap .i64 (v27 + 1))))
noncomputable def law30_small_L42 (v27 : Int) (x30 : api_Proc) (v41 : Int) : Option (Step Int (Step Int Bool)) :=
  if (decide (v41 < (List.length x30.Notes : Int))) then (lsAt x30.Notes v41).bind fun x44 => if (decide (1100 < (List.length x44 : Int))) then some (.done (.done false)) else some (.cont (IntKind.wrap .i64 (v41 + 1))) else (loopM (fun s => law30_small_L50 v27 x30 s) 0).map .done
noncomputable def law30_small_L28 (p : api_Procs) (v27 : Int) : Option (Step Int Bool) :=
  if (decide (v27 < (List.length p.L : Int))) then (lsAt p.L v27).bind fun x30 => if ((decide (100 < (List.length x30.Notes : Int))) || ((decide (100 < (List.length x30.Waits : Int))) || ((decide (1100 < (List.length x30.User : Int))) || ((decide (1100 < (List.length x30.Name : Int))) || ((decide (1100 < (List.length x30.Cwd : Int))) || (decide (1100 < (List.length x30.Status : Int)))))))) then some (.done false) else loopM (fun s => law30_small_L42 v27 x30 s) 0 else some (.done true)
noncomputable def law30_small (p : api_Procs) : Option Bool :=
  if (decide (70 < (List.length p.L : Int))) then some false else loopM (fun s => law30_small_L28 p s) 0
noncomputable def ref30_index_L5 (p : api_Procs) (id : Int) (i : Int) : Option (Step Int Int) :=
  if (decide (i < (List.length p.L : Int))) then (lsAt p.L i).bind fun x7 => if (decide (x7.Id = id)) then some (.done i) else some (.cont (IntKind.wrap .i64 (i + 1))) else some (.done (-1))
noncomputable def ref30_index (p : api_Procs) (id : Int) : Option Int :=
  loopM (fun s => ref30_index_L5 p id s) 0
noncomputable def ref30_Find (p : api_Procs) (id : Int) : Option (api_Proc × Bool) :=
  (ref30_index p id).bind fun x1 => if (decide (x1 < 0)) then some ((api_Proc.mk 0 0 0 [] [] 0 0 0 [] ([] : List Str) [] ([] : List api_Wait) false),false) else (lsAt p.L x1).bind fun x3 => some (x3,true)
noncomputable def ref03_Valid_L10 (name : Str) (i : Int) : Option (Step Int Bool) :=
  if (decide (i < (List.length name : Int))) then (strAt name i).bind fun c12 => (if (decide ((c12.toNat : Int) < 33)) then some true else (strAt name i).bind fun c14 => if (decide (126 < (c14.toNat : Int))) then some true else (strAt name i).bind fun c16 => some (decide ((c16.toNat : Int) = 47))).bind fun t17 => if t17 then some (.done false) else some (.cont (IntKind.wrap .i64 (i + 1))) else some (.done ((decide (1 ≤ (List.length name : Int))) && ((decide ((List.length name : Int) ≤ 64)) && ((!decide (name = [46])) && (!decide (name = [46,46]))))))
noncomputable def ref03_Valid (name : Str) : Option Bool :=
  loopM (fun s => ref03_Valid_L10 name s) 0
noncomputable def ref30_group (p : api_Procs) (n : Int) : Option Bool :=
  some ((decide (1 ≤ n)) && (decide (n < p.Group)))
noncomputable def ref03_Parts_L11 (p : Str) (from_ : Int) (i : Int) (out : (List Str)) : Option (Step (Int × Int × (List Str)) (List Str)) :=
  if (decide (i ≤ (List.length p : Int))) then (if (decide (i = (List.length p : Int))) then some true else (strAt p i).bind fun c14 => some (decide ((c14.toNat : Int) = 47))).bind fun t15 => if t15 then (cut p from_ i).bind fun x17 => (appL 16 out [x17]).bind fun x18 => some (.cont ((IntKind.wrap .i64 (i + 1)),(IntKind.wrap .i64 (i + 1)),x18)) else some (.cont (from_,(IntKind.wrap .i64 (i + 1)),out)) else some (.done out)
noncomputable def ref03_Parts (p : Str) : Option (List Str) :=
  loopM (fun s => ref03_Parts_L11 p s.1 s.2.1 s.2.2) (0,0,([] : List Str))
noncomputable def ref03_Rooted (p : Str) : Option Bool :=
  (if (decide (0 < (List.length p : Int))) then (strAt p 0).bind fun c2 => some (decide ((c2.toNat : Int) = 47)) else some false).bind fun t3 => some t3
noncomputable def ref03_Split_A71 (out : (List Str)) : Option ((List Str) × Int) :=
  if (decide (32 < (List.length out : Int))) then some (([] : List Str),4) else some (out,0)
noncomputable def ref03_Split_L49 (p : Str) (x2 : (List Str)) (i_1 : Int) (out : (List Str)) : Option (Step (Int × (List Str)) ((List Str) × Int)) :=
  if (decide (i_1 < (List.length x2 : Int))) then (lsAt x2 i_1).bind fun x51 => (if (decide (x51 = [])) then some true else (lsAt x2 i_1).bind fun x53 => some (decide (x53 = [46]))).bind fun t54 => if t54 then some (.cont ((IntKind.wrap .i64 (i_1 + 1)),out)) else (lsAt x2 i_1).bind fun x56 => (if (decide (x56 = [46,46])) then if (decide (0 < (List.length out : Int))) then (lsAt out (IntKind.wrap .i64 ((List.length out : Int) - 1))).bind fun x59 => some (!decide (x59 = [46,46])) else some false else some false).bind fun t60 => if t60 then (cut out 0 (IntKind.wrap .i64 ((List.length out : Int) - 1))).bind fun x62 => some (.cont ((IntKind.wrap .i64 (i_1 + 1)),x62)) else (lsAt x2 i_1).bind fun x63 => (if (decide (x63 = [46,46])) then (ref03_Rooted p).bind fun x65 => some x65 else some false).bind fun t66 => if t66 then some (.cont ((IntKind.wrap .i64 (i_1 + 1)),out)) else (lsAt x2 i_1).bind fun x68 => (appL 16 out [x68]).bind fun x69 => some (.cont ((IntKind.wrap .i64 (i_1 + 1)),x69)) else (ref03_Split_A71 out).map .done
noncomputable def ref03_Split_L15 (p : Str) (x2 : (List Str)) (i : Int) : Option (Step Int ((List Str) × Int)) :=
  if (decide (i < (List.length x2 : Int))) then (lsAt x2 i).bind fun x17 => (if (!decide (x17 = [])) then (lsAt x2 i).bind fun x19 => if (!decide (x19 = [46])) then (lsAt x2 i).bind fun x21 => if (!decide (x21 = [46,46])) then (lsAt x2 i).bind fun x23 => (ref03_Valid x23).bind fun x24 => some (!x24) else some false else some false else some false).bind fun t25 => if t25 then some (.done (([] : List Str),6)) else some (.cont (IntKind.wrap .i64 (i + 1))) else (loopM (fun s => ref03_Split_L49 p x2 s.1 s.2) (0,([] : List Str))).map .done
noncomputable def ref03_Split (p : Str) : Option ((List Str) × Int) :=
  if (decide (1024 < (List.length p : Int))) then some (([] : List Str),4) else (ref03_Parts p).bind fun x2 => loopM (fun s => ref03_Split_L15 p x2 s) 0
noncomputable def ref03_Build_K8 (l : (List Str)) (i : Int) (p9 : Str) : Option (Step (Str × Int) Str) :=
  (lsAt l i).bind fun x10 => (catS p9 x10).bind fun x11 => some (.cont (x11,(IntKind.wrap .i64 (i + 1))))
noncomputable def ref03_Build_A17 (rooted : Bool) (s_ : Str) : Option Str :=
  if rooted then (catS [47] s_).bind fun x15 => some x15 else if (decide (s_ = [])) then some [46] else some s_
noncomputable def ref03_Build_L6 (rooted : Bool) (l : (List Str)) (s_ : Str) (i : Int) : Option (Step (Str × Int) Str) :=
  if (decide (i < (List.length l : Int))) then if (decide (0 < i)) then (catS s_ [47]).bind fun x13 => ref03_Build_K8 l i x13 else ref03_Build_K8 l i s_ else (ref03_Build_A17 rooted s_).map .done
noncomputable def ref03_Build (rooted : Bool) (l : (List Str)) : Option Str :=
  loopM (fun s => ref03_Build_L6 rooted l s.1 s.2) ([],0)
noncomputable def ref03_Clean (p : Str) : Option (Str × Int) :=
  (ref03_Split p).bind fun x1 => if (!decide (x1.2 = 0)) then some ([],x1.2) else (ref03_Rooted p).bind fun x3 => (ref03_Build x3 x1.1).bind fun x4 => some (x4,0)
noncomputable def ref30_fields_L49 (p : api_Procs) (x_ : api_Proc) (i_1 : Int) : Option (Step Int Bool) :=
  if (decide (i_1 < (List.length x_.Waits : Int))) then (lsAt x_.Waits i_1).bind fun x51 => (if (decide (x51.Id < 1)) then some true else (lsAt x_.Waits i_1).bind fun x53 => if (decide (p.Next ≤ x53.Id)) then some true else (lsAt x_.Waits i_1).bind fun x55 => some (decide (1024 < (List.length x55.Status : Int)))).bind fun t56 => if t56 then some (.done false) else some (.cont (IntKind.wrap .i64 (i_1 + 1))) else some (.done true)
noncomputable def ref30_fields_L36 (p : api_Procs) (x_ : api_Proc) (i : Int) : Option (Step Int Bool) :=
  if (decide (i < (List.length x_.Notes : Int))) then (lsAt x_.Notes i).bind fun x38 => if (decide (1024 < (List.length x38 : Int))) then some (.done false) else some (.cont (IntKind.wrap .i64 (i + 1))) else (loopM (fun s => ref30_fields_L49 p x_ s) 0).map .done
noncomputable def ref30_fields (p : api_Procs) (x_ : api_Proc) : Option Bool :=
  if ((!decide (x_.State = 1)) && ((!decide (x_.State = 2)) && (!decide (x_.State = 3)))) then some false else (ref05_Valid x_.User).bind fun x5 => (if (!x5) then some true else if (!decide (x_.Name = [])) then (ref03_Valid x_.Name).bind fun x8 => if (!x8) then some true else (ref30_group p x_.Ns).bind fun x10 => if (!x10) then some true else (ref30_group p x_.Env).bind fun x12 => if (!x12) then some true else (ref30_group p x_.Fds).bind fun x14 => if (!x14) then some true else some (!decide (x_.Status = [])) else (ref30_group p x_.Ns).bind fun x16 => if (!x16) then some true else (ref30_group p x_.Env).bind fun x18 => if (!x18) then some true else (ref30_group p x_.Fds).bind fun x20 => if (!x20) then some true else some (!decide (x_.Status = []))).bind fun t22 => if t22 then some false else (ref03_Clean x_.Cwd).bind fun x24 => (if (!decide (x24.2 = 0)) then some true else if (!decide (x24.1 = x_.Cwd)) then some true else (ref03_Rooted x24.1).bind fun x27 => if (!x27) then some true else if (decide (8 < (List.length x_.Notes : Int))) then some true else some (decide (64 < (List.length x_.Waits : Int)))).bind fun t30 => if t30 then some false else loopM (fun s => ref30_fields_L36 p x_ s) 0
noncomputable def ref30_Right_A43 (p : api_Procs) (i : Int) (found : Bool) : Option (Step Int Bool) :=
  (if (!found) then some true else if (decide (0 < i)) then (lsAt p.L i).bind fun x39 => (lsAt p.L (IntKind.wrap .i64 (i - 1))).bind fun x40 => some (decide (x39.Id ≤ x40.Id)) else some false).bind fun t41 => if t41 then some (.done false) else some (.cont (IntKind.wrap .i64 (i + 1)))
noncomputable def ref30_Right_L31 (p : api_Procs) (i : Int) (found : Bool) (k : Int) : Option (Step (Bool × Int) (Step Int Bool)) :=
  if (decide (k < i)) then (if found then some true else (lsAt p.L k).bind fun x34 => (lsAt p.L i).bind fun x35 => some (decide (x34.Id = x35.Parent))).bind fun t36 => some (.cont (t36,(IntKind.wrap .i64 (k + 1)))) else (ref30_Right_A43 p i found).map .done
noncomputable def ref30_Right_L19 (p : api_Procs) (i : Int) : Option (Step Int Bool) :=
  if (decide (i < (List.length p.L : Int))) then (lsAt p.L i).bind fun x21 => (ref30_fields p x21).bind fun x22 => if (!x22) then some (.done false) else loopM (fun s => ref30_Right_L31 p i s.1 s.2) ((decide (i = 0)),0) else some (.done true)
noncomputable def ref30_Right (p : api_Procs) : Option Bool :=
  (if (decide ((List.length p.L : Int) < 1)) then some true else if (decide (64 < (List.length p.L : Int))) then some true else (lsAt p.L 0).bind fun x3 => if (!decide (x3.Id = 1)) then some true else (lsAt p.L 0).bind fun x5 => if (!decide (x5.Parent = 0)) then some true else (lsAt p.L (IntKind.wrap .i64 ((List.length p.L : Int) - 1))).bind fun x7 => if (decide (p.Next ≤ x7.Id)) then some true else if (decide (1048576 < p.Next)) then some true else if (decide (p.Group < 2)) then some true else some (decide (1099511627777 < p.Group))).bind fun t11 => if t11 then some false else loopM (fun s => ref30_Right_L19 p s) 0
noncomputable def proc_Note (p : api_Procs) (id : Int) (note : Str) : Option (api_Procs × Int) :=
  (proc_own p).bind fun x1 => (proc_index x1 id).bind fun x2 => if (decide (x2 < 0)) then some (x1,42) else (proc_short note).bind fun x4 => if (!x4) then some (x1,4) else (lsAt x1.L x2).bind fun x6 => if (decide (8 ≤ (List.length x6.Notes : Int))) then some (x1,22) else (lsAt x1.L x2).bind fun x8 => (appL 16 x8.Notes [note]).bind fun x9 => (lsAt x1.L x2).bind fun x10 => some ((api_Procs.mk x1.Next x1.Group (List.set x1.L (Int.toNat x2) (api_Proc.mk x10.Id x10.Parent x10.State x10.User x10.Name x10.Ns x10.Env x10.Fds x10.Cwd x9 x10.Status x10.Waits x10.Alone))),0)
noncomputable def proc_Take (p : api_Procs) (id : Int) : Option (api_Procs × Str × Bool × Int) :=
  (proc_own p).bind fun x1 => (proc_index x1 id).bind fun x2 => if (decide (x2 < 0)) then some (x1,[],false,42) else (lsAt x1.L x2).bind fun x4 => if (decide ((List.length x4.Notes : Int) = 0)) then some (x1,[],false,0) else (cut x4.Notes 1 (List.length x4.Notes : Int)).bind fun x6 => (lsAt x1.L x2).bind fun x7 => (lsAt x4.Notes 0).bind fun x8 => some ((api_Procs.mk x1.Next x1.Group (List.set x1.L (Int.toNat x2) (api_Proc.mk x7.Id x7.Parent x7.State x7.User x7.Name x7.Ns x7.Env x7.Fds x7.Cwd x6 x7.Status x7.Waits x7.Alone))),x8,true,0)
noncomputable def proc_Set (p : api_Procs) (id : Int) (n : Int) : Option (api_Procs × Int) :=
  (proc_own p).bind fun x1 => (proc_index x1 id).bind fun x2 => if (decide (x2 < 0)) then some (x1,42) else (proc_state n).bind fun x4 => if (!x4) then some (x1,1) else (lsAt x1.L x2).bind fun x6 => some ((api_Procs.mk x1.Next x1.Group (List.set x1.L (Int.toNat x2) (api_Proc.mk x6.Id x6.Parent n x6.User x6.Name x6.Ns x6.Env x6.Fds x6.Cwd x6.Notes x6.Status x6.Waits x6.Alone))),0)
noncomputable def path_Join (dir : Str) (p : Str) : Option (Str × Int) :=
  (path_rooted p).bind fun x1 => if (x1 || (decide (dir = []))) then (path_Clean p).bind fun x5 => some (x5.1,x5.2) else (catS dir [47]).bind fun x6 => (catS x6 p).bind fun x7 => (path_Clean x7).bind fun x8 => some (x8.1,x8.2)
noncomputable def proc_Cd (p : api_Procs) (id : Int) (dir : Str) : Option (api_Procs × Int) :=
  (proc_own p).bind fun x1 => (proc_index x1 id).bind fun x2 => if (decide (x2 < 0)) then some (x1,42) else (lsAt x1.L x2).bind fun x4 => (path_Join x4.Cwd dir).bind fun x5 => if (!decide (x5.2 = 0)) then some (x1,x5.2) else (lsAt x1.L x2).bind fun x7 => some ((api_Procs.mk x1.Next x1.Group (List.set x1.L (Int.toNat x2) (api_Proc.mk x7.Id x7.Parent x7.State x7.User x7.Name x7.Ns x7.Env x7.Fds x5.1 x7.Notes x7.Status x7.Waits x7.Alone))),0)
noncomputable def law30_did_K1 (p2 : Int) (p3 : Int) (p4 : (List api_Proc)) (p5 : law30_result) : Option (api_Procs × law30_result) :=
  some ((api_Procs.mk p2 p3 p4),p5)
noncomputable def law30_did (p : api_Procs) (o : law30_Op) : Option (api_Procs × law30_result) :=
  if (decide (o.Kind = 1)) then (proc_Fork p o.Id o.N).bind fun x7 => law30_did_K1 x7.1.Next x7.1.Group x7.1.L (law30_result.mk x7.2.1 (api_Wait.mk 0 []) [] false x7.2.2 false) else if (decide (o.Kind = 2)) then (proc_Exit p o.Id o.Text).bind fun x9 => law30_did_K1 x9.1.Next x9.1.Group x9.1.L (law30_result.mk 0 (api_Wait.mk 0 []) [] false x9.2 false) else if (decide (o.Kind = 3)) then (proc_Await p o.Id).bind fun x11 => law30_did_K1 x11.1.Next x11.1.Group x11.1.L (law30_result.mk 0 x11.2.1 [] x11.2.2.1 x11.2.2.2 false) else if (decide (o.Kind = 4)) then (proc_Note p o.Id o.Text).bind fun x13 => law30_did_K1 x13.1.Next x13.1.Group x13.1.L (law30_result.mk 0 (api_Wait.mk 0 []) [] false x13.2 false) else if (decide (o.Kind = 5)) then (proc_Take p o.Id).bind fun x15 => law30_did_K1 x15.1.Next x15.1.Group x15.1.L (law30_result.mk 0 (api_Wait.mk 0 []) x15.2.1 x15.2.2.1 x15.2.2.2 false) else if (decide (o.Kind = 6)) then (proc_Set p o.Id o.N).bind fun x17 => law30_did_K1 x17.1.Next x17.1.Group x17.1.L (law30_result.mk 0 (api_Wait.mk 0 []) [] false x17.2 false) else (proc_Cd p o.Id o.Text).bind fun x18 => law30_did_K1 x18.1.Next x18.1.Group x18.1.L (law30_result.mk 0 (api_Wait.mk 0 []) [] false x18.2 false)
noncomputable def ref30_flag (flags : Int) (f : Int) : Option Bool :=
  (quoI .i64 flags f).bind fun x1 => some (decide ((Int.tmod x1 2) = 1))
noncomputable def ref30_choose (own : Int) (next : Int) (flags : Int) (a : Int) (b : Int) : Option (Int × Int) :=
  (ref30_flag flags a).bind fun x1 => (if x1 then some true else (ref30_flag flags b).bind fun x3 => some x3).bind fun t4 => if t4 then some (next,(IntKind.wrap .i64 (next + 1))) else some (own,next)
noncomputable def ref30_Fork (p : api_Procs) (id : Int) (flags : Int) : Option (api_Procs × Int × Int) :=
  (ref30_Find p id).bind fun x1 => if (!x1.2) then some (p,0,42) else (if (decide (flags < 0)) then some true else if (decide (127 < flags)) then some true else (ref30_flag flags 1).bind fun x5 => if x5 then (ref30_flag flags 8).bind fun x7 => if x7 then some true else (ref30_flag flags 2).bind fun x9 => if x9 then (ref30_flag flags 16).bind fun x11 => if x11 then some true else (ref30_flag flags 4).bind fun x13 => if x13 then (ref30_flag flags 32).bind fun x15 => some x15 else some false else (ref30_flag flags 4).bind fun x16 => if x16 then (ref30_flag flags 32).bind fun x18 => some x18 else some false else (ref30_flag flags 2).bind fun x19 => if x19 then (ref30_flag flags 16).bind fun x21 => if x21 then some true else (ref30_flag flags 4).bind fun x23 => if x23 then (ref30_flag flags 32).bind fun x25 => some x25 else some false else (ref30_flag flags 4).bind fun x26 => if x26 then (ref30_flag flags 32).bind fun x28 => some x28 else some false).bind fun t29 => if t29 then some (p,0,1) else if ((decide (64 ≤ (List.length p.L : Int))) || ((decide (1048575 < p.Next)) || (decide (1099511627774 < p.Group)))) then some (p,0,22) else (ref30_flag flags 64).bind fun x35 => (ref30_choose x1.1.Ns p.Group flags 1 8).bind fun x36 => (ref30_choose x1.1.Env x36.2 flags 2 16).bind fun x37 => (ref30_choose x1.1.Fds x37.2 flags 4 32).bind fun x38 => (appL 168 ([] : List api_Proc) p.L).bind fun x39 => (appL 168 x39 [(api_Proc.mk p.Next id 1 x1.1.User x1.1.Name x36.1 x37.1 x38.1 x1.1.Cwd ([] : List Str) [] ([] : List api_Wait) x35)]).bind fun x40 => some ((api_Procs.mk (IntKind.wrap .i64 (p.Next + 1)) x38.2 x40),p.Next,0)
noncomputable def ref30_Exit_K28 (i : Int) (v21 : (List api_Proc)) (p29 : api_Proc) : Option (Step (Int × (List api_Proc)) (api_Procs × Int)) :=
  (appL 168 v21 [p29]).bind fun x30 => some (.cont ((IntKind.wrap .i64 (i + 1)),x30))
noncomputable def ref30_Exit_K26 (id : Int) (status : Str) (x1 : (api_Proc × Bool)) (i : Int) (v21 : (List api_Proc)) (p27 : api_Proc) : Option (Step (Int × (List api_Proc)) (api_Procs × Int)) :=
  if ((decide (p27.Id = x1.1.Parent)) && ((!x1.1.Alone) && (decide ((List.length p27.Waits : Int) < 64)))) then (appL 24 ([] : List api_Wait) p27.Waits).bind fun x35 => (appL 24 x35 [(api_Wait.mk id status)]).bind fun x36 => ref30_Exit_K28 i v21 (api_Proc.mk p27.Id p27.Parent p27.State p27.User p27.Name p27.Ns p27.Env p27.Fds p27.Cwd p27.Notes p27.Status x36 p27.Alone) else ref30_Exit_K28 i v21 p27
noncomputable def ref30_Exit_L22 (p : api_Procs) (id : Int) (status : Str) (x1 : (api_Proc × Bool)) (i : Int) (v21 : (List api_Proc)) : Option (Step (Int × (List api_Proc)) (api_Procs × Int)) :=
  if (decide (i < (List.length p.L : Int))) then (lsAt p.L i).bind fun x24 => if (decide (x24.Id = id)) then some (.cont ((IntKind.wrap .i64 (i + 1)),v21)) else if (decide (x24.Parent = id)) then ref30_Exit_K26 id status x1 i v21 (api_Proc.mk x24.Id 1 x24.State x24.User x24.Name x24.Ns x24.Env x24.Fds x24.Cwd x24.Notes x24.Status x24.Waits x24.Alone) else ref30_Exit_K26 id status x1 i v21 x24 else some (.done ((api_Procs.mk p.Next p.Group v21),0))
noncomputable def ref30_Exit (p : api_Procs) (id : Int) (status : Str) : Option (api_Procs × Int) :=
  (ref30_Find p id).bind fun x1 => if (!x1.2) then some (p,42) else if (decide (id = 1)) then some (p,43) else if (decide (1024 < (List.length status : Int))) then some (p,4) else loopM (fun s => ref30_Exit_L22 p id status x1 s.1 s.2) (0,([] : List api_Proc))
noncomputable def ref30_with_L9 (p : api_Procs) (x_ : api_Proc) (i : Int) (v8 : (List api_Proc)) : Option (Step (Int × (List api_Proc)) api_Procs) :=
  if (decide (i < (List.length p.L : Int))) then (lsAt p.L i).bind fun x11 => if (decide (x11.Id = x_.Id)) then (appL 168 v8 [x_]).bind fun x13 => some (.cont ((IntKind.wrap .i64 (i + 1)),x13)) else (lsAt p.L i).bind fun x14 => (appL 168 v8 [x14]).bind fun x15 => some (.cont ((IntKind.wrap .i64 (i + 1)),x15)) else some (.done (api_Procs.mk p.Next p.Group v8))
noncomputable def ref30_with (p : api_Procs) (x_ : api_Proc) : Option api_Procs :=
  loopM (fun s => ref30_with_L9 p x_ s.1 s.2) (0,([] : List api_Proc))
noncomputable def ref30_Await_L14 (p : api_Procs) (id : Int) (i : Int) : Option (Step Int (api_Procs × api_Wait × Bool × Int)) :=
  if (decide (i < (List.length p.L : Int))) then (lsAt p.L i).bind fun x16 => (if (decide (x16.Parent = id)) then (lsAt p.L i).bind fun x18 => some (!x18.Alone) else some false).bind fun t19 => if t19 then some (.done (p,(api_Wait.mk 0 []),true,0)) else some (.cont (IntKind.wrap .i64 (i + 1))) else some (.done (p,(api_Wait.mk 0 []),false,42))
noncomputable def ref30_Await (p : api_Procs) (id : Int) : Option (api_Procs × api_Wait × Bool × Int) :=
  (ref30_Find p id).bind fun x1 => if (!x1.2) then some (p,(api_Wait.mk 0 []),false,42) else if (decide (0 < (List.length x1.1.Waits : Int))) then (lsAt x1.1.Waits 0).bind fun x4 => (cut x1.1.Waits 1 (List.length x1.1.Waits : Int)).bind fun x5 => (ref30_with p (api_Proc.mk x1.1.Id x1.1.Parent x1.1.State x1.1.User x1.1.Name x1.1.Ns x1.1.Env x1.1.Fds x1.1.Cwd x1.1.Notes x1.1.Status x5 x1.1.Alone)).bind fun x6 => some (x6,x4,false,0) else loopM (fun s => ref30_Await_L14 p id s) 0
noncomputable def ref30_Note (p : api_Procs) (id : Int) (note : Str) : Option (api_Procs × Int) :=
  (ref30_Find p id).bind fun x1 => if (!x1.2) then some (p,42) else if (decide (1024 < (List.length note : Int))) then some (p,4) else if (decide (8 ≤ (List.length x1.1.Notes : Int))) then some (p,22) else (appL 16 ([] : List Str) x1.1.Notes).bind fun x5 => (appL 16 x5 [note]).bind fun x6 => (ref30_with p (api_Proc.mk x1.1.Id x1.1.Parent x1.1.State x1.1.User x1.1.Name x1.1.Ns x1.1.Env x1.1.Fds x1.1.Cwd x6 x1.1.Status x1.1.Waits x1.1.Alone)).bind fun x7 => some (x7,0)
noncomputable def ref30_Take (p : api_Procs) (id : Int) : Option (api_Procs × Str × Bool × Int) :=
  (ref30_Find p id).bind fun x1 => if (!x1.2) then some (p,[],false,42) else if (decide ((List.length x1.1.Notes : Int) = 0)) then some (p,[],false,0) else (lsAt x1.1.Notes 0).bind fun x4 => (cut x1.1.Notes 1 (List.length x1.1.Notes : Int)).bind fun x5 => (ref30_with p (api_Proc.mk x1.1.Id x1.1.Parent x1.1.State x1.1.User x1.1.Name x1.1.Ns x1.1.Env x1.1.Fds x1.1.Cwd x5 x1.1.Status x1.1.Waits x1.1.Alone)).bind fun x6 => some (x6,x4,true,0)
noncomputable def ref30_Set (p : api_Procs) (id : Int) (state : Int) : Option (api_Procs × Int) :=
  (ref30_Find p id).bind fun x1 => if (!x1.2) then some (p,42) else if ((!decide (state = 1)) && ((!decide (state = 2)) && (!decide (state = 3)))) then some (p,1) else (ref30_with p (api_Proc.mk x1.1.Id x1.1.Parent state x1.1.User x1.1.Name x1.1.Ns x1.1.Env x1.1.Fds x1.1.Cwd x1.1.Notes x1.1.Status x1.1.Waits x1.1.Alone)).bind fun x7 => some (x7,0)
noncomputable def ref03_Join (dir : Str) (p : Str) : Option (Str × Int) :=
  (ref03_Rooted p).bind fun x1 => if (x1 || (decide (dir = []))) then (ref03_Clean p).bind fun x5 => some (x5.1,x5.2) else (catS dir [47]).bind fun x6 => (catS x6 p).bind fun x7 => (ref03_Clean x7).bind fun x8 => some (x8.1,x8.2)
noncomputable def ref30_Cd (p : api_Procs) (id : Int) (dir : Str) : Option (api_Procs × Int) :=
  (ref30_Find p id).bind fun x1 => if (!x1.2) then some (p,42) else (ref03_Join x1.1.Cwd dir).bind fun x3 => if (!decide (x3.2 = 0)) then some (p,x3.2) else (ref30_with p (api_Proc.mk x1.1.Id x1.1.Parent x1.1.State x1.1.User x1.1.Name x1.1.Ns x1.1.Env x1.1.Fds x3.1 x1.1.Notes x1.1.Status x1.1.Waits x1.1.Alone)).bind fun x5 => some (x5,0)
noncomputable def law30_want_K1 (p2 : api_Procs) (p3 : law30_result) : Option (api_Procs × law30_result) :=
  some (p2,p3)
noncomputable def law30_want (p : api_Procs) (o : law30_Op) : Option (api_Procs × law30_result) :=
  if (decide (o.Kind = 1)) then (ref30_Fork p o.Id o.N).bind fun x5 => law30_want_K1 x5.1 (law30_result.mk x5.2.1 (api_Wait.mk 0 []) [] false x5.2.2 false) else if (decide (o.Kind = 2)) then (ref30_Exit p o.Id o.Text).bind fun x7 => law30_want_K1 x7.1 (law30_result.mk 0 (api_Wait.mk 0 []) [] false x7.2 false) else if (decide (o.Kind = 3)) then (ref30_Await p o.Id).bind fun x9 => law30_want_K1 x9.1 (law30_result.mk 0 x9.2.1 [] x9.2.2.1 x9.2.2.2 false) else if (decide (o.Kind = 4)) then (ref30_Note p o.Id o.Text).bind fun x11 => law30_want_K1 x11.1 (law30_result.mk 0 (api_Wait.mk 0 []) [] false x11.2 false) else if (decide (o.Kind = 5)) then (ref30_Take p o.Id).bind fun x13 => law30_want_K1 x13.1 (law30_result.mk 0 (api_Wait.mk 0 []) x13.2.1 x13.2.2.1 x13.2.2.2 false) else if (decide (o.Kind = 6)) then (ref30_Set p o.Id o.N).bind fun x15 => law30_want_K1 x15.1 (law30_result.mk 0 (api_Wait.mk 0 []) [] false x15.2 false) else (ref30_Cd p o.Id o.Text).bind fun x16 => law30_want_K1 x16.1 (law30_result.mk 0 (api_Wait.mk 0 []) [] false x16.2 false)
noncomputable def law30_ProcCalls (p : api_Procs) (o : law30_Op) : Option Bool :=
  (law30_small p).bind fun x1 => (if (!x1) then some true else if (decide (1100 < (List.length o.Text : Int))) then some true else (ref30_Right p).bind fun x4 => some (!x4)).bind fun t5 => if t5 then (law30_awake).bind fun x7 => some x7 else (law30_did p o).bind fun x8 => (law30_want p o).bind fun x9 => (ref30_Same x8.1 x9.1).bind fun x10 => (if x10 then if (decide (x8.2.N = x9.2.N) && (decide (x8.2.W.Id = x9.2.W.Id) && (decide (x8.2.W.Status = x9.2.W.Status) && (decide (x8.2.S = x9.2.S) && (decide (x8.2.Ok = x9.2.Ok) && (decide (x8.2.Err = x9.2.Err) && (decide (x8.2.None = x9.2.None) && true))))))) then (proc_Right x8.1).bind fun x13 => if x13 then (law30_awake).bind fun x15 => some x15 else some false else some false else some false).bind fun t16 => some t16
end Go.Proofs.YtfaobpifaobobaaDoor
