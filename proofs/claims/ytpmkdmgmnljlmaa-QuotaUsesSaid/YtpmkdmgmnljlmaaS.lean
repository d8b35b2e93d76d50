/- What the functions compute, in plain Lean, printed by a program of the claim's author. -/
import Derived.Test.YtpmkdmgmnljlmaaVmX
namespace Go.Proofs.Ytpmkdmgmnljlmaa
open Go.Vm
set_option autoImplicit false
set_option linter.unusedVariables false
set_option linter.unusedSimpArgs false
set_option maxRecDepth 100000

abbrev Str := List UInt8
structure api_Quota where
  User : Str
  Files : Int
  Bytes : Int
  deriving Inhabited
def enc_api_Quota (x : api_Quota) : PV := .agg [.str x.User, .int .i64 x.Files, .int .i64 x.Bytes]
structure api_Node where
  Id : Int
  Parent : Int
  Vers : Int
  Name : Str
  Mode : Int
  Uid : Str
  Gid : Str
  Muid : Str
  Atime : Int
  Mtime : Int
  Data : Str
  deriving Inhabited
def enc_api_Node (x : api_Node) : PV := .agg [.int .i64 x.Id, .int .i64 x.Parent, .int .i64 x.Vers, .str x.Name, .int .i64 x.Mode, .str x.Uid, .str x.Gid, .str x.Muid, .int .i64 x.Atime, .int .i64 x.Mtime, .str x.Data]
structure api_Tree where
  Next : Int
  Nodes : (List api_Node)
  deriving Inhabited
def enc_api_Tree (x : api_Tree) : PV := .agg [.int .i64 x.Next, .sl (some 11) (List.map enc_api_Node x.Nodes)]
structure law12_Ask where
  User : Str
  Files : Int
  Bytes : Int
  deriving Inhabited
def enc_law12_Ask (x : law12_Ask) : PV := .agg [.str x.User, .int .i64 x.Files, .int .i64 x.Bytes]
def encT_law12_Ask_law12_Ask (x : (law12_Ask × law12_Ask)) : PV := .agg [.str x.1.User, .int .i64 x.1.Files, .int .i64 x.1.Bytes, .str x.2.User, .int .i64 x.2.Files, .int .i64 x.2.Bytes]

/- law12_two -/
noncomputable def law12_two : Option api_Tree :=
  some (api_Tree.mk 3 [(api_Node.mk 1 1 0 [47] 2147484141 [97, 110, 110] [] [] 0 0 []), (api_Node.mk 2 1 0 [102] 420 [97, 110, 110] [] [] 0 0 [97, 98, 99])])

/- quota_Used -/
noncomputable def quota_Used_L7 (t_ : api_Tree) (name : Str) (files : Int) (bytes : Int) (v6 : Int) : Option (Step (Int × Int × Int) (Int × Int)) :=
  if (decide (v6 < (List.length t_.Nodes : Int))) then (lsAt t_.Nodes v6).bind fun x9 => if (decide (x9.Uid = name)) then some (.cont ((IntKind.wrap .i64 (files + 1)), (IntKind.wrap .i64 (bytes + (List.length x9.Data : Int))), (IntKind.wrap .i64 (v6 + 1)))) else some (.cont (files, bytes, (IntKind.wrap .i64 (v6 + 1)))) else some (.done (files, bytes))
noncomputable def quota_Used (t_ : api_Tree) (name : Str) : Option (Int × Int) :=
  loopM (fun s => quota_Used_L7 t_ name s.1 s.2.1 s.2.2) (0, 0, 0)

/- quota_Find -/
noncomputable def quota_Find_L5 (l : (List api_Quota)) (name : Str) (v4 : Int) : Option (Step Int (api_Quota × Bool)) :=
  if (decide (v4 < (List.length l : Int))) then (lsAt l v4).bind fun x7 => if (decide (x7.User = name)) then some (.done (x7, true)) else some (.cont (IntKind.wrap .i64 (v4 + 1))) else some (.done ((api_Quota.mk [] 0 0), false))
noncomputable def quota_Find (l : (List api_Quota)) (name : Str) : Option (api_Quota × Bool) :=
  loopM (fun s => quota_Find_L5 l name s) 0

/- user_Valid -/
noncomputable def user_Valid_L17 (name : Str) (v16 : Int) : Option (Step Int Bool) :=
  if (decide (v16 < (List.length name : Int))) then (strAt name v16).bind fun c19 => if ((!((decide (97 ≤ (c19.toNat : Int))) && (decide ((c19.toNat : Int) ≤ 122)))) && ((decide (v16 = 0)) || (!(if (decide (48 ≤ (c19.toNat : Int))) then ((decide ((c19.toNat : Int) ≤ 57)) || ((decide ((c19.toNat : Int) = 45)) || (decide ((c19.toNat : Int) = 95)))) else ((decide ((c19.toNat : Int) = 45)) || (decide ((c19.toNat : Int) = 95))))))) then some (.done false) else some (.cont (IntKind.wrap .i64 (v16 + 1))) else some (.done true)
noncomputable def user_Valid (name : Str) : Option Bool :=
  if ((decide (name = [])) || (decide (32 < (List.length name : Int)))) then some false else loopM (fun s => user_Valid_L17 name s) 0

/- quota_Check -/
noncomputable def quota_Check_L10 (l : (List api_Quota)) (v9 : Int) : Option (Step Int Int) :=
  if (decide (v9 < (List.length l : Int))) then (lsAt l v9).bind fun x12 => (user_Valid x12.User).bind fun x13 => if (!x13) then some (.done 25) else (if (decide (0 < v9)) then (lsAt l (IntKind.wrap .i64 (v9 - 1))).bind fun x16 => some (blt x12.User x16.User || decide (x12.User = x16.User)) else some false).bind fun t17 => if t17 then some (.done 2) else if ((decide ((min x12.Files x12.Bytes) < 0)) || (decide (9007199254740991 < (max x12.Files x12.Bytes)))) then some (.done 5) else some (.cont (IntKind.wrap .i64 (v9 + 1))) else some (.done 0)
noncomputable def quota_Check (l : (List api_Quota)) : Option Int :=
  if (decide (64 < (List.length l : Int))) then some 22 else loopM (fun s => quota_Check_L10 l s) 0

/- quota_Fits -/
noncomputable def quota_Fits (l : (List api_Quota)) (t_ : api_Tree) (name : Str) (files : Int) (bytes : Int) : Option Bool :=
  (quota_Find l name).bind fun x1 => if (!x1.2) then some true else (quota_Used t_ name).bind fun x3 => some (if (decide (files ≤ 0)) then ((decide (bytes ≤ 0)) || (decide (bytes ≤ (IntKind.wrap .i64 (x1.1.Bytes - x3.2))))) else ((decide (files ≤ (IntKind.wrap .i64 (x1.1.Files - x3.1)))) && ((decide (bytes ≤ 0)) || (decide (bytes ≤ (IntKind.wrap .i64 (x1.1.Bytes - x3.2)))))))

/- quota_Over -/
noncomputable def quota_Over_L10 (l : (List api_Quota)) (t_ : api_Tree) (v8 : Int) (out : (List Str)) : Option (Step (Int × (List Str)) (List Str)) :=
  if (decide (v8 < (List.length l : Int))) then (lsAt l v8).bind fun x12 => (quota_Used t_ x12.User).bind fun x13 => if ((decide (x12.Files < x13.1)) || (decide (x12.Bytes < x13.2))) then (appL 16 out [x12.User]).bind fun x17 => some (.cont ((IntKind.wrap .i64 (v8 + 1)), x17)) else some (.cont ((IntKind.wrap .i64 (v8 + 1)), out)) else some (.done out)
noncomputable def quota_Over (l : (List api_Quota)) (t_ : api_Tree) : Option (List Str) :=
  loopM (fun s => quota_Over_L10 l t_ s.1 s.2) (0, ([] : List Str))

/- ref12_Names -/
noncomputable def ref12_Names_L7 (a : (List Str)) (b : (List Str)) (i : Int) : Option (Step Int Bool) :=
  if (decide (i < (List.length a : Int))) then (lsAt a i).bind fun x9 => (lsAt b i).bind fun x10 => if (!decide (x9 = x10)) then some (.done false) else some (.cont (IntKind.wrap .i64 (i + 1))) else some (.done true)
noncomputable def ref12_Names (a : (List Str)) (b : (List Str)) : Option Bool :=
  if (!decide ((List.length a : Int) = (List.length b : Int))) then some false else loopM (fun s => ref12_Names_L7 a b s) 0

/- law12_alive -/
noncomputable def law12_alive : Option Bool :=
  (law12_two).bind fun x1 => (quota_Used x1 [97, 110, 110]).bind fun x2 => (quota_Find [(api_Quota.mk [97, 110, 110] 3 4)] [98, 111, 98]).bind fun x3 => (quota_Check [(api_Quota.mk [97, 110, 110] 3 4)]).bind fun x4 => (if (decide (x4 = 0)) then (quota_Check [(api_Quota.mk [97, 110, 110] 3 4), (api_Quota.mk [97, 110, 110] 3 4)]).bind fun x6 => if (decide (x6 = 2)) then if (decide (x2.1 = 2)) then if (decide (x2.2 = 3)) then if (!x3.2) then (law12_two).bind fun x11 => (quota_Fits [(api_Quota.mk [97, 110, 110] 3 4)] x11 [97, 110, 110] 1 1).bind fun x12 => if x12 then (law12_two).bind fun x14 => (quota_Fits [(api_Quota.mk [97, 110, 110] 3 4)] x14 [97, 110, 110] 2 0).bind fun x15 => if (!x15) then (law12_two).bind fun x17 => (quota_Fits [(api_Quota.mk [97, 110, 110] 3 4)] x17 [97, 110, 110] 0 2).bind fun x18 => if (!x18) then (law12_two).bind fun x20 => (quota_Fits [(api_Quota.mk [97, 110, 110] 3 4)] x20 [98, 111, 98] 9 9).bind fun x21 => if x21 then (law12_two).bind fun x23 => (quota_Over [(api_Quota.mk [97, 110, 110] 1 4)] x23).bind fun x24 => (ref12_Names x24 [[97, 110, 110]]).bind fun x25 => some x25 else some false else some false else some false else some false else some false else some false else some false else some false else some false).bind fun t26 => some t26

/- ref05_Valid -/
noncomputable def ref05_Valid_L12 (name : Str) (i : Int) : Option (Step Int Bool) :=
  if (decide (i < (List.length name : Int))) then (strAt name i).bind fun c14 => if ((!((decide (97 ≤ (c14.toNat : Int))) && (decide ((c14.toNat : Int) ≤ 122)))) && ((decide (i = 0)) || (if (decide (48 ≤ (c14.toNat : Int))) then ((!(decide ((c14.toNat : Int) ≤ 57))) && ((!decide ((c14.toNat : Int) = 45)) && (!decide ((c14.toNat : Int) = 95)))) else ((!decide ((c14.toNat : Int) = 45)) && (!decide ((c14.toNat : Int) = 95)))))) then some (.done false) else some (.cont (IntKind.wrap .i64 (i + 1))) else some (.done true)
noncomputable def ref05_Valid (name : Str) : Option Bool :=
  if ((decide ((List.length name : Int) < 1)) || (decide (32 < (List.length name : Int)))) then some false else loopM (fun s => ref05_Valid_L12 name s) 0

/- ref12_Check -/
noncomputable def ref12_Check_L12 (l : (List api_Quota)) (i : Int) : Option (Step Int Int) :=
  if (decide (i < (List.length l : Int))) then (lsAt l i).bind fun x14 => (ref05_Valid x14.User).bind fun x15 => if (!x15) then some (.done 25) else (if (decide (0 < i)) then (lsAt l (IntKind.wrap .i64 (i - 1))).bind fun x18 => some (!blt x18.User x14.User) else some false).bind fun t19 => if t19 then some (.done 2) else if ((decide (x14.Files < 0)) || ((decide (9007199254740991 < x14.Files)) || ((decide (x14.Bytes < 0)) || (decide (9007199254740991 < x14.Bytes))))) then some (.done 5) else some (.cont (IntKind.wrap .i64 (i + 1))) else some (.done 0)
noncomputable def ref12_Check (l : (List api_Quota)) : Option Int :=
  if (decide (64 < (List.length l : Int))) then some 22 else loopM (fun s => ref12_Check_L12 l s) 0

/- law12_QuotaChecks -/
noncomputable def law12_QuotaChecks (l : (List api_Quota)) : Option Bool :=
  (if (decide (100 < (List.length l : Int))) then (law12_alive).bind fun x2 => some x2 else (quota_Check l).bind fun x3 => (ref12_Check l).bind fun x4 => if (decide (x3 = x4)) then (law12_alive).bind fun x6 => some x6 else some false).bind fun t7 => some t7

/- law12_few -/
noncomputable def law12_few (l : (List api_Quota)) (t_ : api_Tree) : Option Bool :=
  some ((decide ((List.length l : Int) ≤ 100)) && (decide ((List.length t_.Nodes : Int) ≤ 200)))

/- ref12_Used -/
noncomputable def ref12_Used_L8 (t_ : api_Tree) (user : Str) (files : Int) (bytes : Int) (i : Int) : Option (Step (Int × Int × Int) (Int × Int)) :=
  if (decide (i < (List.length t_.Nodes : Int))) then (lsAt t_.Nodes i).bind fun x10 => if (decide (x10.Uid = user)) then (lsAt t_.Nodes i).bind fun x12 => some (.cont ((IntKind.wrap .i64 (files + 1)), (IntKind.wrap .i64 (bytes + (List.length x12.Data : Int))), (IntKind.wrap .i64 (i + 1)))) else some (.cont (files, bytes, (IntKind.wrap .i64 (i + 1)))) else some (.done (files, bytes))
noncomputable def ref12_Used (t_ : api_Tree) (user : Str) : Option (Int × Int) :=
  loopM (fun s => ref12_Used_L8 t_ user s.1 s.2.1 s.2.2) (0, 0, 0)

/- ref12_Find -/
noncomputable def ref12_Find_L6 (l : (List api_Quota)) (user : Str) (i : Int) : Option (Step Int (api_Quota × Bool)) :=
  if (decide (i < (List.length l : Int))) then (lsAt l i).bind fun x8 => if (decide (x8.User = user)) then (lsAt l i).bind fun x10 => some (.done (x10, true)) else some (.cont (IntKind.wrap .i64 (i + 1))) else some (.done ((api_Quota.mk [] 0 0), false))
noncomputable def ref12_Find (l : (List api_Quota)) (user : Str) : Option (api_Quota × Bool) :=
  loopM (fun s => ref12_Find_L6 l user s) 0

/- ref12_Fits -/
noncomputable def ref12_Fits (l : (List api_Quota)) (t_ : api_Tree) (user : Str) (files : Int) (bytes : Int) : Option Bool :=
  (ref12_Find l user).bind fun x1 => if (!x1.2) then some true else (ref12_Used t_ user).bind fun x3 => some (if (decide (files ≤ 0)) then ((decide (bytes ≤ 0)) || (decide (bytes ≤ (IntKind.wrap .i64 (x1.1.Bytes - x3.2))))) else ((decide (files ≤ (IntKind.wrap .i64 (x1.1.Files - x3.1)))) && ((decide (bytes ≤ 0)) || (decide (bytes ≤ (IntKind.wrap .i64 (x1.1.Bytes - x3.2)))))))

/- ref12_Over -/
noncomputable def ref12_Over_L13 (l : (List api_Quota)) (t_ : api_Tree) (i : Int) (out : (List Str)) : Option (Step (Int × (List Str)) (List Str)) :=
  if (decide (i < (List.length l : Int))) then (lsAt l i).bind fun x15 => (ref12_Used t_ x15.User).bind fun x16 => (lsAt l i).bind fun x17 => (if (decide (x17.Files < x16.1)) then some true else (lsAt l i).bind fun x19 => some (decide (x19.Bytes < x16.2))).bind fun t20 => if t20 then (lsAt l i).bind fun x22 => (appL 16 out [x22.User]).bind fun x23 => some (.cont ((IntKind.wrap .i64 (i + 1)), x23)) else some (.cont ((IntKind.wrap .i64 (i + 1)), out)) else some (.done out)
noncomputable def ref12_Over (l : (List api_Quota)) (t_ : api_Tree) : Option (List Str) :=
  loopM (fun s => ref12_Over_L13 l t_ s.1 s.2) (0, ([] : List Str))

/- law12_QuotaUses -/
noncomputable def law12_QuotaUses (l : (List api_Quota)) (t_ : api_Tree) (x_ : law12_Ask) : Option Bool :=
  (law12_few l t_).bind fun x1 => if (!x1) then (law12_alive).bind fun x3 => some x3 else (quota_Used t_ x_.User).bind fun x4 => (ref12_Used t_ x_.User).bind fun x5 => if ((!decide (x4.1 = x5.1)) || (!decide (x4.2 = x5.2))) then some false else (ref12_Check l).bind fun x9 => if (!decide (x9 = 0)) then (law12_alive).bind fun x11 => some x11 else (quota_Find l x_.User).bind fun x12 => (ref12_Find l x_.User).bind fun x13 => (if (decide (x12.1.User = x13.1.User) && (decide (x12.1.Files = x13.1.Files) && (decide (x12.1.Bytes = x13.1.Bytes) && true))) then if (decide (x12.2 = x13.2)) then (quota_Fits l t_ x_.User x_.Files x_.Bytes).bind fun x16 => (ref12_Fits l t_ x_.User x_.Files x_.Bytes).bind fun x17 => if (decide (x16 = x17)) then (quota_Over l t_).bind fun x19 => (ref12_Over l t_).bind fun x20 => (ref12_Names x19 x20).bind fun x21 => if x21 then (law12_alive).bind fun x23 => some x23 else some false else some false else some false else some false).bind fun t24 => some t24

/- law12_QuotaLess -/
noncomputable def law12_QuotaLess (l : (List api_Quota)) (t_ : api_Tree) (x_ : (law12_Ask × law12_Ask)) : Option Bool :=
  (law12_few l t_).bind fun x1 => (if (!x1) then some true else (ref12_Check l).bind fun x3 => some (!decide (x3 = 0))).bind fun t4 => if t4 then (law12_alive).bind fun x6 => some x6 else (quota_Fits l t_ x_.1.User (min x_.1.Files 0) (min x_.1.Bytes 0)).bind fun x7 => if (!x7) then some false else (quota_Fits l t_ x_.1.User x_.1.Files x_.1.Bytes).bind fun x9 => (if (!x9) then (law12_alive).bind fun x11 => some x11 else (quota_Fits l t_ x_.1.User (min x_.1.Files x_.2.Files) (min x_.1.Bytes x_.2.Bytes)).bind fun x12 => if x12 then (law12_alive).bind fun x14 => some x14 else some false).bind fun t15 => some t15

/- law12_QuotaOver -/
noncomputable def law12_QuotaOver_A36 (x7 : (List Str)) (n : Int) : Option Bool :=
  (if (decide (n = (List.length x7 : Int))) then (law12_alive).bind fun x34 => some x34 else some false).bind fun t35 => some t35
noncomputable def law12_QuotaOver_L21 (l : (List api_Quota)) (t_ : api_Tree) (x7 : (List Str)) (n : Int) (v20 : Int) : Option (Step (Int × Int) Bool) :=
  if (decide (v20 < (List.length l : Int))) then (lsAt l v20).bind fun x23 => (quota_Used t_ x23.User).bind fun x24 => (lsAt l v20).bind fun x25 => (quota_Fits l (api_Tree.mk 0 []) x25.User x24.1 x24.2).bind fun x26 => if (!x26) then (if (decide ((List.length x7 : Int) ≤ n)) then some true else (lsAt x7 n).bind fun x29 => (lsAt l v20).bind fun x30 => some (!decide (x29 = x30.User))).bind fun t31 => if t31 then some (.done false) else some (.cont ((IntKind.wrap .i64 (n + 1)), (IntKind.wrap .i64 (v20 + 1)))) else some (.cont (n, (IntKind.wrap .i64 (v20 + 1)))) else (law12_QuotaOver_A36 x7 n).map .done
noncomputable def law12_QuotaOver (l : (List api_Quota)) (t_ : api_Tree) : Option Bool :=
  (law12_few l t_).bind fun x1 => (if (!x1) then some true else (ref12_Check l).bind fun x3 => some (!decide (x3 = 0))).bind fun t4 => if t4 then (law12_alive).bind fun x6 => some x6 else (quota_Over l t_).bind fun x7 => loopM (fun s => law12_QuotaOver_L21 l t_ x7 s.1 s.2) (0, 0)

/- law12_QuotaAdds -/
noncomputable def law12_QuotaAdds (l : (List api_Quota)) (t_ : api_Tree) (user : Str) (data : Str) : Option Bool :=
  (law12_few l t_).bind fun x1 => (if (!x1) then some true else if (decide (1000 < (List.length data : Int))) then some true else (ref12_Check l).bind fun x4 => if (!decide (x4 = 0)) then some true else (quota_Fits l t_ user 1 (List.length data : Int)).bind fun x6 => some (!x6)).bind fun t7 => if t7 then (law12_alive).bind fun x9 => some x9 else (appL 128 ([] : List api_Node) t_.Nodes).bind fun x10 => (appL 128 x10 [(api_Node.mk 0 0 0 [] 0 user [] [] 0 0 data)]).bind fun x11 => (quota_Over l t_).bind fun x12 => (quota_Over l (api_Tree.mk t_.Next x11)).bind fun x13 => (ref12_Names x12 x13).bind fun x14 => (if x14 then (law12_alive).bind fun x16 => some x16 else some false).bind fun t17 => some t17

end Go.Proofs.Ytpmkdmgmnljlmaa
