/- What the functions compute, in plain Lean, printed by a program of the claim's author. -/
import Derived.Test.YtheeafnmkboblaaDoorVmX
import Derived.Test.YtheeafnmkboblaaDoorVmE
namespace Go.Proofs.YtheeafnmkboblaaDoor
open Go.Vm
set_option autoImplicit false
set_option linter.unusedVariables false
set_option linter.unusedSimpArgs false
set_option maxRecDepth 100000

abbrev Str := List UInt8


/- unicode_utf8_RuneCountInString -/
noncomputable def unicode_utf8_RuneCountInString (s_ : Str) : Option Int :=
  none

/- unicode_utf8_decodeRuneInStringSlow -/
noncomputable def unicode_utf8_decodeRuneInStringSlow (s_ : Str) : Option (Int × Int) :=
  if (decide ((List.length s_ : Int) < 1)) then some (65533, 0) else (strAt s_ 0).bind fun c2 => none

/- unicode_utf8_DecodeRuneInString -/
noncomputable def unicode_utf8_DecodeRuneInString (s_ : Str) : Option (Int × Int) :=
  (if (!decide (s_ = [])) then (strAt s_ 0).bind fun c2 => some (decide ((c2.toNat : Int) < 128)) else some false).bind fun t3 => if t3 then (strAt s_ 0).bind fun c5 => some ((IntKind.wrap .i32 (c5.toNat : Int)), 1) else (unicode_utf8_decodeRuneInStringSlow s_).bind fun x6 => some (x6.1, x6.2)

/- strings_explode -/
noncomputable def strings_explode_A21 (p3 : Int) (s__1 : Str) (a : (List Str)) : Option (List Str) :=
  if (decide (0 < p3)) then (lsAt a (IntKind.wrap .i64 (p3 - 1))).bind fun x20 => some (List.set a (Int.toNat (IntKind.wrap .i64 (p3 - 1))) s__1) else some a
noncomputable def strings_explode_L13 (p3 : Int) (s__1 : Str) (i : Int) (a : (List Str)) : Option (Step (Str × Int × (List Str)) (List Str)) :=
  if (decide (i < (IntKind.wrap .i64 (p3 - 1)))) then (unicode_utf8_DecodeRuneInString s__1).bind fun x15 => (cut s__1 0 x15.2).bind fun x16 => (lsAt a i).bind fun x17 => (cut s__1 x15.2 (List.length s__1 : Int)).bind fun x18 => some (.cont (x18, (IntKind.wrap .i64 (i + 1)), (List.set a (Int.toNat i) x16))) else (strings_explode_A21 p3 s__1 a).map .done
noncomputable def strings_explode_K2 (s_ : Str) (p3 : Int) : Option (List Str) :=
  (mkL 16 ([] : Str) p3).bind fun x4 => loopM (fun s => strings_explode_L13 p3 s.1 s.2.1 s.2.2) (s_, 0, x4)
noncomputable def strings_explode (s_ : Str) (n : Int) : Option (List Str) :=
  (unicode_utf8_RuneCountInString s_).bind fun x1 => if ((decide (n < 0)) || (decide (x1 < n))) then strings_explode_K2 s_ x1 else strings_explode_K2 s_ n

/- strings_Count -/
noncomputable def strings_Count (a0 : Str) (a1 : Str) : Option Int := xCount a0 a1

/- strings_Index -/
noncomputable def strings_Index (a0 : Str) (a1 : Str) : Option Int := xIndex a0 a1

/- strings_genSplit -/
noncomputable def strings_genSplit_K7 (p8 : Str) (p9 : Int) (p10 : (List Str)) : Option (List Str) :=
  (lsAt p10 p9).bind fun x11 => (cut (List.set p10 (Int.toNat p9) p8) 0 (IntKind.wrap .i64 (p9 + 1))).bind fun x12 => some x12
noncomputable def strings_genSplit_L22 (s_ : Str) (sep : Str) (sepSave : Int) (p5 : Int) (s__2 : Str) (i_1 : Int) (a_1 : (List Str)) : Option (Step (Str × Int × (List Str)) (List Str)) :=
  if (decide (i_1 < (IntKind.wrap .i64 ((min p5 (IntKind.wrap .i64 ((List.length s_ : Int) + 1))) - 1)))) then (strings_Index s__2 sep).bind fun x24 => if (decide (x24 < 0)) then (strings_genSplit_K7 s__2 i_1 a_1).map .done else (cut s__2 0 (IntKind.wrap .i64 (x24 + sepSave))).bind fun x26 => (lsAt a_1 i_1).bind fun x27 => (cut s__2 (IntKind.wrap .i64 (x24 + (List.length sep : Int))) (List.length s__2 : Int)).bind fun x28 => some (.cont (x28, (IntKind.wrap .i64 (i_1 + 1)), (List.set a_1 (Int.toNat i_1) x26))) else (strings_genSplit_K7 s__2 i_1 a_1).map .done
noncomputable def strings_genSplit_K4 (s_ : Str) (sep : Str) (sepSave : Int) (p5 : Int) : Option (List Str) :=
  (mkL 16 ([] : Str) (min p5 (IntKind.wrap .i64 ((List.length s_ : Int) + 1)))).bind fun x6 => loopM (fun s => strings_genSplit_L22 s_ sep sepSave p5 s.1 s.2.1 s.2.2) (s_, 0, x6)
noncomputable def strings_genSplit (s_ : Str) (sep : Str) (sepSave : Int) (n : Int) : Option (List Str) :=
  if (decide (n = 0)) then some ([] : (List Str)) else if (decide (sep = [])) then (strings_explode s_ n).bind fun x3 => some x3 else if (decide (n < 0)) then (strings_Count s_ sep).bind fun x30 => strings_genSplit_K4 s_ sep sepSave (IntKind.wrap .i64 (x30 + 1)) else strings_genSplit_K4 s_ sep sepSave n

/- strings_Split -/
noncomputable def strings_Split (s_ : Str) (sep : Str) : Option (List Str) :=
  (strings_genSplit s_ sep 0 (-1)).bind fun x1 => some x1

/- stringslite_HasPrefix -/
noncomputable def stringslite_HasPrefix (s_ : Str) (prefix_ : Str) : Option Bool :=
  (if (decide ((List.length prefix_ : Int) ≤ (List.length s_ : Int))) then (cut s_ 0 (List.length prefix_ : Int)).bind fun x2 => some (decide (x2 = prefix_)) else some false).bind fun t3 => some t3

/- strings_HasPrefix -/
noncomputable def strings_HasPrefix (s_ : Str) (prefix_ : Str) : Option Bool :=
  (stringslite_HasPrefix s_ prefix_).bind fun x1 => some x1

/- path_rooted -/
noncomputable def path_rooted (p : Str) : Option Bool :=
  (strings_HasPrefix p [47]).bind fun x1 => some x1

/- path_Valid -/
noncomputable def path_Valid_L15 (name : Str) (v14 : Int) : Option (Step Int Bool) :=
  if (decide (v14 < (List.length name : Int))) then (strAt name v14).bind fun c17 => (if (decide ((c17.toNat : Int) < 33)) then some true else (strAt name v14).bind fun c19 => if (decide (126 < (c19.toNat : Int))) then some true else (strAt name v14).bind fun c21 => some (decide ((c21.toNat : Int) = 47))).bind fun t22 => if t22 then some (.done false) else some (.cont (IntKind.wrap .i64 (v14 + 1))) else some (.done true)
noncomputable def path_Valid (name : Str) : Option Bool :=
  if ((decide (name = [])) || ((decide (name = [46])) || ((decide (name = [46, 46])) || (decide (64 < (List.length name : Int)))))) then some false else loopM (fun s => path_Valid_L15 name s) 0

/- path_Split -/
noncomputable def path_Split_A43 (out : (List Str)) : Option ((List Str) × Int) :=
  if (decide (32 < (List.length out : Int))) then some (([] : (List Str)), 4) else some (out, 0)
noncomputable def path_Split_L23 (p : Str) (x2 : (List Str)) (v21 : Int) (out : (List Str)) : Option (Step (Int × (List Str)) ((List Str) × Int)) :=
  if (decide (v21 < (List.length x2 : Int))) then (lsAt x2 v21).bind fun x25 => if ((decide (x25 = [])) || (decide (x25 = [46]))) then some (.cont ((IntKind.wrap .i64 (v21 + 1)), out)) else (if (decide (x25 = [46, 46])) then if (decide (0 ≤ (IntKind.wrap .i64 ((List.length out : Int) - 1)))) then (lsAt out (IntKind.wrap .i64 ((List.length out : Int) - 1))).bind fun x31 => some (!decide (x31 = [46, 46])) else some false else some false).bind fun t32 => if t32 then (cut out 0 (IntKind.wrap .i64 ((List.length out : Int) - 1))).bind fun x34 => some (.cont ((IntKind.wrap .i64 (v21 + 1)), x34)) else if (decide (x25 = [46, 46])) then (path_rooted p).bind fun x36 => if (!x36) then (appL 16 out [x25]).bind fun x38 => some (.cont ((IntKind.wrap .i64 (v21 + 1)), x38)) else some (.cont ((IntKind.wrap .i64 (v21 + 1)), out)) else (path_Valid x25).bind fun x39 => if (!x39) then some (.done (([] : (List Str)), 6)) else (appL 16 out [x25]).bind fun x41 => some (.cont ((IntKind.wrap .i64 (v21 + 1)), x41)) else (path_Split_A43 out).map .done
noncomputable def path_Split (p : Str) : Option ((List Str) × Int) :=
  if (decide (1024 < (List.length p : Int))) then some (([] : (List Str)), 4) else (strings_Split p [47]).bind fun x2 => loopM (fun s => path_Split_L23 p x2 s.1 s.2) (0, ([] : List Str))

/- strings_Join -/
noncomputable def strings_Join (a0 : (List Str)) (a1 : Str) : Option Str := xJoin a0 a1

/- path_build -/
noncomputable def path_build (l : (List Str)) (root : Bool) : Option Str :=
  if root then (strings_Join l [47]).bind fun x2 => (catS [47] x2).bind fun x3 => some x3 else if (decide ((List.length l : Int) = 0)) then some [46] else (strings_Join l [47]).bind fun x5 => some x5

/- path_Clean -/
noncomputable def path_Clean (p : Str) : Option (Str × Int) :=
  (path_Split p).bind fun x1 => if (!decide (x1.2 = 0)) then some ([], x1.2) else (path_rooted p).bind fun x3 => (path_build x1.1 x3).bind fun x4 => some (x4, 0)

/- path_Join -/
noncomputable def path_Join (dir : Str) (p : Str) : Option (Str × Int) :=
  (path_rooted p).bind fun x1 => if (x1 || (decide (dir = []))) then (path_Clean p).bind fun x5 => some (x5.1, x5.2) else (catS dir [47]).bind fun x6 => (catS x6 p).bind fun x7 => (path_Clean x7).bind fun x8 => some (x8.1, x8.2)

/- path_Base -/
noncomputable def path_Base (p : Str) : Option Str :=
  (path_Split p).bind fun x1 => if (!decide (x1.2 = 0)) then some [] else if (decide ((List.length x1.1 : Int) = 0)) then (path_rooted p).bind fun x4 => (path_build ([] : (List Str)) x4).bind fun x5 => some x5 else (lsAt x1.1 (IntKind.wrap .i64 ((List.length x1.1 : Int) - 1))).bind fun x6 => some x6

/- path_Under -/
noncomputable def path_Under_L16 (x1 : ((List Str) × Int)) (x2 : ((List Str) × Int)) (v15 : Int) : Option (Step Int Bool) :=
  if (decide (v15 < (List.length x1.1 : Int))) then (lsAt x1.1 v15).bind fun x18 => (lsAt x2.1 v15).bind fun x19 => if (!decide (x18 = x19)) then some (.done false) else some (.cont (IntKind.wrap .i64 (v15 + 1))) else some (.done true)
noncomputable def path_Under (dir : Str) (p : Str) : Option Bool :=
  (path_Split dir).bind fun x1 => (path_Split p).bind fun x2 => (if (!decide (x1.2 = 0)) then some true else if (!decide (x2.2 = 0)) then some true else (path_rooted dir).bind fun x5 => if (!x5) then some true else (path_rooted p).bind fun x7 => if (!x7) then some true else some (decide ((List.length x2.1 : Int) < (List.length x1.1 : Int)))).bind fun t9 => if t9 then some false else loopM (fun s => path_Under_L16 x1 x2 s) 0

/- law03_awake -/
noncomputable def law03_awake : Option Bool :=
  (path_Clean [47, 97, 47, 46, 46, 47, 98, 47, 47, 99, 47, 46]).bind fun x1 => (path_Join [47, 97, 47, 98] [46, 46, 47, 99]).bind fun x2 => (if (decide (x1.1 = [47, 98, 47, 99])) then if (decide (x1.2 = 0)) then if (decide (x2.1 = [47, 97, 47, 99])) then if (decide (x2.2 = 0)) then (path_Valid [97, 46, 98]).bind fun x7 => if x7 then (path_Valid [46, 46]).bind fun x9 => if (!x9) then (path_Base [47, 97, 47, 98, 47]).bind fun x11 => if (decide (x11 = [98])) then (path_Under [47, 97] [47, 97, 47, 98]).bind fun x13 => if x13 then (path_Under [47, 97] [47, 97, 98]).bind fun x15 => some (!x15) else some false else some false else some false else some false else some false else some false else some false else some false).bind fun t16 => some t16

/- ref03_Valid -/
noncomputable def ref03_Valid_L10 (name : Str) (i : Int) : Option (Step Int Bool) :=
  if (decide (i < (List.length name : Int))) then (strAt name i).bind fun c12 => (if (decide ((c12.toNat : Int) < 33)) then some true else (strAt name i).bind fun c14 => if (decide (126 < (c14.toNat : Int))) then some true else (strAt name i).bind fun c16 => some (decide ((c16.toNat : Int) = 47))).bind fun t17 => if t17 then some (.done false) else some (.cont (IntKind.wrap .i64 (i + 1))) else some (.done ((decide (1 ≤ (List.length name : Int))) && ((decide ((List.length name : Int) ≤ 64)) && ((!decide (name = [46])) && (!decide (name = [46, 46]))))))
noncomputable def ref03_Valid (name : Str) : Option Bool :=
  loopM (fun s => ref03_Valid_L10 name s) 0

/- law03_PathNames -/
noncomputable def law03_PathNames (name : Str) : Option Bool :=
  if (decide (5000 < (List.length name : Int))) then (law03_awake).bind fun x2 => some x2 else (path_Valid name).bind fun x3 => (ref03_Valid name).bind fun x4 => (if (decide (x3 = x4)) then (law03_awake).bind fun x6 => some x6 else some false).bind fun t7 => some t7

/- ref03_Parts -/
noncomputable def ref03_Parts_L11 (p : Str) (from_ : Int) (i : Int) (out : (List Str)) : Option (Step (Int × Int × (List Str)) (List Str)) :=
  if (decide (i ≤ (List.length p : Int))) then (if (decide (i = (List.length p : Int))) then some true else (strAt p i).bind fun c14 => some (decide ((c14.toNat : Int) = 47))).bind fun t15 => if t15 then (cut p from_ i).bind fun x17 => (appL 16 out [x17]).bind fun x18 => some (.cont ((IntKind.wrap .i64 (i + 1)), (IntKind.wrap .i64 (i + 1)), x18)) else some (.cont (from_, (IntKind.wrap .i64 (i + 1)), out)) else some (.done out)
noncomputable def ref03_Parts (p : Str) : Option (List Str) :=
  loopM (fun s => ref03_Parts_L11 p s.1 s.2.1 s.2.2) (0, 0, ([] : List Str))

/- ref03_Rooted -/
noncomputable def ref03_Rooted (p : Str) : Option Bool :=
  (if (decide (0 < (List.length p : Int))) then (strAt p 0).bind fun c2 => some (decide ((c2.toNat : Int) = 47)) else some false).bind fun t3 => some t3

/- ref03_Split -/
noncomputable def ref03_Split_A71 (out : (List Str)) : Option ((List Str) × Int) :=
  if (decide (32 < (List.length out : Int))) then some (([] : (List Str)), 4) else some (out, 0)
noncomputable def ref03_Split_L49 (p : Str) (x2 : (List Str)) (i_1 : Int) (out : (List Str)) : Option (Step (Int × (List Str)) ((List Str) × Int)) :=
  if (decide (i_1 < (List.length x2 : Int))) then (lsAt x2 i_1).bind fun x51 => (if (decide (x51 = [])) then some true else (lsAt x2 i_1).bind fun x53 => some (decide (x53 = [46]))).bind fun t54 => if t54 then some (.cont ((IntKind.wrap .i64 (i_1 + 1)), out)) else (lsAt x2 i_1).bind fun x56 => (if (decide (x56 = [46, 46])) then if (decide (0 < (List.length out : Int))) then (lsAt out (IntKind.wrap .i64 ((List.length out : Int) - 1))).bind fun x59 => some (!decide (x59 = [46, 46])) else some false else some false).bind fun t60 => if t60 then (cut out 0 (IntKind.wrap .i64 ((List.length out : Int) - 1))).bind fun x62 => some (.cont ((IntKind.wrap .i64 (i_1 + 1)), x62)) else (lsAt x2 i_1).bind fun x63 => (if (decide (x63 = [46, 46])) then (ref03_Rooted p).bind fun x65 => some x65 else some false).bind fun t66 => if t66 then some (.cont ((IntKind.wrap .i64 (i_1 + 1)), out)) else (lsAt x2 i_1).bind fun x68 => (appL 16 out [x68]).bind fun x69 => some (.cont ((IntKind.wrap .i64 (i_1 + 1)), x69)) else (ref03_Split_A71 out).map .done
noncomputable def ref03_Split_L15 (p : Str) (x2 : (List Str)) (i : Int) : Option (Step Int ((List Str) × Int)) :=
  if (decide (i < (List.length x2 : Int))) then (lsAt x2 i).bind fun x17 => (if (!decide (x17 = [])) then (lsAt x2 i).bind fun x19 => if (!decide (x19 = [46])) then (lsAt x2 i).bind fun x21 => if (!decide (x21 = [46, 46])) then (lsAt x2 i).bind fun x23 => (ref03_Valid x23).bind fun x24 => some (!x24) else some false else some false else some false).bind fun t25 => if t25 then some (.done (([] : (List Str)), 6)) else some (.cont (IntKind.wrap .i64 (i + 1))) else (loopM (fun s => ref03_Split_L49 p x2 s.1 s.2) (0, ([] : List Str))).map .done
noncomputable def ref03_Split (p : Str) : Option ((List Str) × Int) :=
  if (decide (1024 < (List.length p : Int))) then some (([] : (List Str)), 4) else (ref03_Parts p).bind fun x2 => loopM (fun s => ref03_Split_L15 p x2 s) 0

/- ref03_Build -/
noncomputable def ref03_Build_K8 (l : (List Str)) (i : Int) (p9 : Str) : Option (Step (Str × Int) Str) :=
  (lsAt l i).bind fun x10 => (catS p9 x10).bind fun x11 => some (.cont (x11, (IntKind.wrap .i64 (i + 1))))
noncomputable def ref03_Build_A17 (rooted : Bool) (s_ : Str) : Option Str :=
  if rooted then (catS [47] s_).bind fun x15 => some x15 else if (decide (s_ = [])) then some [46] else some s_
noncomputable def ref03_Build_L6 (rooted : Bool) (l : (List Str)) (s_ : Str) (i : Int) : Option (Step (Str × Int) Str) :=
  if (decide (i < (List.length l : Int))) then if (decide (0 < i)) then (catS s_ [47]).bind fun x13 => ref03_Build_K8 l i x13 else ref03_Build_K8 l i s_ else (ref03_Build_A17 rooted s_).map .done
noncomputable def ref03_Build (rooted : Bool) (l : (List Str)) : Option Str :=
  loopM (fun s => ref03_Build_L6 rooted l s.1 s.2) ([], 0)

/- ref03_Clean -/
noncomputable def ref03_Clean (p : Str) : Option (Str × Int) :=
  (ref03_Split p).bind fun x1 => if (!decide (x1.2 = 0)) then some ([], x1.2) else (ref03_Rooted p).bind fun x3 => (ref03_Build x3 x1.1).bind fun x4 => some (x4, 0)

/- law03_same -/
noncomputable def law03_same_L7 (a : (List Str)) (b : (List Str)) (v6 : Int) : Option (Step Int Bool) :=
  if (decide (v6 < (List.length a : Int))) then (lsAt a v6).bind fun x9 => (lsAt b v6).bind fun x10 => if (!decide (x9 = x10)) then some (.done false) else some (.cont (IntKind.wrap .i64 (v6 + 1))) else some (.done true)
noncomputable def law03_same (a : (List Str)) (b : (List Str)) : Option Bool :=
  if (!decide ((List.length a : Int) = (List.length b : Int))) then some false else loopM (fun s => law03_same_L7 a b s) 0

/- law03_PathCleans -/
noncomputable def law03_PathCleans (p : Str) : Option Bool :=
  if (decide (5000 < (List.length p : Int))) then (law03_awake).bind fun x2 => some x2 else (path_Clean p).bind fun x3 => (ref03_Clean p).bind fun x4 => (path_Split p).bind fun x5 => (ref03_Split p).bind fun x6 => (if (decide (x3.1 = x4.1)) then if (decide (x3.2 = x4.2)) then (law03_same x5.1 x6.1).bind fun x9 => if x9 then if (decide (x5.2 = x6.2)) then (law03_awake).bind fun x12 => some x12 else some false else some false else some false else some false).bind fun t13 => some t13

/- ref03_Join -/
noncomputable def ref03_Join (dir : Str) (p : Str) : Option (Str × Int) :=
  (ref03_Rooted p).bind fun x1 => if (x1 || (decide (dir = []))) then (ref03_Clean p).bind fun x5 => some (x5.1, x5.2) else (catS dir [47]).bind fun x6 => (catS x6 p).bind fun x7 => (ref03_Clean x7).bind fun x8 => some (x8.1, x8.2)

/- law03_PathJoins -/
noncomputable def law03_PathJoins (dir : Str) (p : Str) : Option Bool :=
  if ((decide (5000 < (List.length dir : Int))) || (decide (5000 < (List.length p : Int)))) then (law03_awake).bind fun x4 => some x4 else (path_Join dir p).bind fun x5 => (ref03_Join dir p).bind fun x6 => (if (decide (x5.1 = x6.1)) then if (decide (x5.2 = x6.2)) then (law03_awake).bind fun x9 => some x9 else some false else some false).bind fun t10 => some t10

/- ref03_Under -/
noncomputable def ref03_Under_L16 (x1 : ((List Str) × Int)) (x2 : ((List Str) × Int)) (i : Int) : Option (Step Int Bool) :=
  if (decide (i < (List.length x1.1 : Int))) then (lsAt x1.1 i).bind fun x18 => (lsAt x2.1 i).bind fun x19 => if (!decide (x18 = x19)) then some (.done false) else some (.cont (IntKind.wrap .i64 (i + 1))) else some (.done true)
noncomputable def ref03_Under (dir : Str) (p : Str) : Option Bool :=
  (ref03_Split dir).bind fun x1 => (ref03_Split p).bind fun x2 => (if (!decide (x1.2 = 0)) then some true else if (!decide (x2.2 = 0)) then some true else (ref03_Rooted dir).bind fun x5 => if (!x5) then some true else (ref03_Rooted p).bind fun x7 => if (!x7) then some true else some (decide ((List.length x2.1 : Int) < (List.length x1.1 : Int)))).bind fun t9 => if t9 then some false else loopM (fun s => ref03_Under_L16 x1 x2 s) 0

/- law03_PathContains -/
noncomputable def law03_PathContains (dir : Str) (p : Str) : Option Bool :=
  if ((decide (5000 < (List.length dir : Int))) || (decide (5000 < (List.length p : Int)))) then (law03_awake).bind fun x4 => some x4 else (path_Under dir p).bind fun x5 => (ref03_Under dir p).bind fun x6 => (if (decide (x5 = x6)) then (law03_awake).bind fun x8 => some x8 else some false).bind fun t9 => some t9

/- law03_PathSettles -/
noncomputable def law03_PathSettles (p : Str) : Option Bool :=
  if (decide (5000 < (List.length p : Int))) then (law03_awake).bind fun x2 => some x2 else (path_Clean p).bind fun x3 => if (!decide (x3.2 = 0)) then (if (decide (x3.1 = [])) then (law03_awake).bind fun x6 => some x6 else some false).bind fun t7 => some t7 else (path_Clean x3.1).bind fun x8 => (path_Split x3.1).bind fun x9 => (if (decide (x8.2 = 0)) then if (decide (x3.1 = x8.1)) then if (decide (x9.2 = 0)) then (ref03_Rooted p).bind fun x13 => (ref03_Build x13 x9.1).bind fun x14 => if (decide (x14 = x3.1)) then (law03_awake).bind fun x16 => some x16 else some false else some false else some false else some false).bind fun t17 => some t17

/- law03_PathNests -/
noncomputable def law03_PathNests_A36 (top : Str) (dir : Str) (p : Str) : Option Bool :=
  (path_Join dir p).bind fun x21 => (path_Clean dir).bind fun x22 => if ((!decide (x21.2 = 0)) || (!decide (x22.2 = 0))) then (law03_awake).bind fun x26 => some x26 else (path_Under dir x21.1).bind fun x27 => (if x27 then (path_Under top dir).bind fun x29 => if (!x29) then (law03_awake).bind fun x31 => some x31 else (path_Under top x21.1).bind fun x32 => if x32 then (law03_awake).bind fun x34 => some x34 else some false else some false).bind fun t35 => some t35
noncomputable def law03_PathNests_L16 (top : Str) (dir : Str) (p : Str) (x10 : (List Str)) (v15 : Int) : Option (Step Int Bool) :=
  if (decide (v15 < (List.length x10 : Int))) then (lsAt x10 v15).bind fun x18 => if (decide (x18 = [46, 46])) then (law03_awake).bind fun x20 => some (.done x20) else some (.cont (IntKind.wrap .i64 (v15 + 1))) else (law03_PathNests_A36 top dir p).map .done
noncomputable def law03_PathNests (top : Str) (dir : Str) (p : Str) : Option Bool :=
  (if (decide (300 < (List.length top : Int))) then some true else if (decide (300 < (List.length dir : Int))) then some true else if (decide (300 < (List.length p : Int))) then some true else (ref03_Rooted p).bind fun x4 => if x4 then some true else (ref03_Rooted dir).bind fun x6 => some (!x6)).bind fun t7 => if t7 then (law03_awake).bind fun x9 => some x9 else (ref03_Parts p).bind fun x10 => loopM (fun s => law03_PathNests_L16 top dir p x10 s) 0

/- ref03_Base -/
noncomputable def ref03_Base (p : Str) : Option Str :=
  (ref03_Split p).bind fun x1 => if (!decide (x1.2 = 0)) then some [] else if (decide ((List.length x1.1 : Int) = 0)) then (ref03_Rooted p).bind fun x4 => (ref03_Build x4 ([] : (List Str))).bind fun x5 => some x5 else (lsAt x1.1 (IntKind.wrap .i64 ((List.length x1.1 : Int) - 1))).bind fun x6 => some x6

/- path_Dir -/
noncomputable def path_Dir (p : Str) : Option Str :=
  (path_Split p).bind fun x1 => if (!decide (x1.2 = 0)) then some [] else (cut x1.1 0 (max (IntKind.wrap .i64 ((List.length x1.1 : Int) - 1)) 0)).bind fun x3 => (path_rooted p).bind fun x4 => (path_build x3 x4).bind fun x5 => some x5

/- ref03_Dir -/
noncomputable def ref03_Dir (p : Str) : Option Str :=
  (ref03_Split p).bind fun x1 => if (!decide (x1.2 = 0)) then some [] else (ref03_Rooted p).bind fun x3 => (cut x1.1 0 (max 0 (IntKind.wrap .i64 ((List.length x1.1 : Int) - 1)))).bind fun x4 => (ref03_Build x3 x4).bind fun x5 => some x5

/- law03_PathEnds -/
noncomputable def law03_PathEnds (p : Str) : Option Bool :=
  if (decide (5000 < (List.length p : Int))) then (law03_awake).bind fun x2 => some x2 else (path_Base p).bind fun x3 => (ref03_Base p).bind fun x4 => (if (decide (x3 = x4)) then (path_Dir p).bind fun x6 => (ref03_Dir p).bind fun x7 => if (decide (x6 = x7)) then (law03_awake).bind fun x9 => some x9 else some false else some false).bind fun t10 => some t10

/- law03_PathRejoins -/
noncomputable def law03_PathRejoins (p : Str) : Option Bool :=
  if (decide (5000 < (List.length p : Int))) then (law03_awake).bind fun x2 => some x2 else (path_Clean p).bind fun x3 => (path_Split p).bind fun x4 => (if (!decide (x3.2 = 0)) then some true else if (!decide (x4.2 = 0)) then some true else if (decide ((List.length x4.1 : Int) = 0)) then some true else (lsAt x4.1 (IntKind.wrap .i64 ((List.length x4.1 : Int) - 1))).bind fun x8 => some (decide (x8 = [46, 46]))).bind fun t9 => if t9 then (law03_awake).bind fun x11 => some x11 else (path_Dir p).bind fun x12 => (path_Base p).bind fun x13 => (path_Join x12 x13).bind fun x14 => (if (decide (x14.2 = 0)) then if (decide (x14.1 = x3.1)) then (law03_awake).bind fun x17 => some x17 else some false else some false).bind fun t18 => some t18

/- stringslite_Index -/
noncomputable def stringslite_Index (a0 : Str) (a1 : Str) : Option Int := xIndex a0 a1

/- stringslite_IndexByte -/
noncomputable def stringslite_IndexByte (a0 : Str) (a1 : Int) : Option Int := xIndexByte a0 a1

/- bytealg_Cutover -/
noncomputable def bytealg_Cutover (n : Int) : Option Int :=
  some (IntKind.wrap .i64 (Int.tdiv (IntKind.wrap .i64 (n + 16)) 8))

/- bytealg_hashStr_string -/
noncomputable def bytealg_hashStr_string_K18 (sq : Int) (i_1 : Int) (p19 : Int) : Option (Step (Int × Int × Int) (Int × Int)) :=
  (shrI .i64 i_1 1).bind fun x20 => some (.cont (p19, (IntKind.wrap .u32 (sq * sq)), x20))
noncomputable def bytealg_hashStr_string_L16 (hash : Int) (pow : Int) (sq : Int) (i_1 : Int) : Option (Step (Int × Int × Int) (Int × Int)) :=
  if (decide (0 < i_1)) then if (!decide ((IntKind.wrap .i64 ((BitVec.ofInt (IntKind.bits .i64) i_1 &&& (BitVec.ofInt (IntKind.bits .i64) 1)).toNat : Nat)) = 0)) then bytealg_hashStr_string_K18 sq i_1 (IntKind.wrap .u32 (pow * sq)) else bytealg_hashStr_string_K18 sq i_1 pow else some (.done (hash, pow))
noncomputable def bytealg_hashStr_string_L5 (sep : Str) (hash : Int) (i : Int) : Option (Step (Int × Int) (Int × Int)) :=
  if (decide (i < (List.length sep : Int))) then (strAt sep i).bind fun c7 => some (.cont ((IntKind.wrap .u32 ((IntKind.wrap .u32 (hash * 16777619)) + (IntKind.wrap .u32 (c7.toNat : Int)))), (IntKind.wrap .i64 (i + 1)))) else (loopM (fun s => bytealg_hashStr_string_L16 hash s.1 s.2.1 s.2.2) (1, 16777619, (List.length sep : Int))).map .done
noncomputable def bytealg_hashStr_string (sep : Str) : Option (Int × Int) :=
  loopM (fun s => bytealg_hashStr_string_L5 sep s.1 s.2) (0, 0)

/- bytealg_IndexRabinKarp_string -/
noncomputable def bytealg_IndexRabinKarp_string_L22 (s_ : Str) (sep : Str) (x1 : (Int × Int)) (h__1 : Int) (i_1 : Int) : Option (Step (Int × Int) Int) :=
  if (decide (i_1 < (List.length s_ : Int))) then (strAt s_ i_1).bind fun c24 => (strAt s_ (IntKind.wrap .i64 (i_1 - (List.length sep : Int)))).bind fun c25 => (if (decide ((IntKind.wrap .u32 ((IntKind.wrap .u32 ((IntKind.wrap .u32 (h__1 * 16777619)) + (IntKind.wrap .u32 (c24.toNat : Int)))) - (IntKind.wrap .u32 (x1.2 * (IntKind.wrap .u32 (c25.toNat : Int)))))) = x1.1)) then (cut s_ (IntKind.wrap .i64 ((IntKind.wrap .i64 (i_1 + 1)) - (List.length sep : Int))) (IntKind.wrap .i64 (i_1 + 1))).bind fun x27 => some (decide (x27 = sep)) else some false).bind fun t28 => if t28 then some (.done (IntKind.wrap .i64 ((IntKind.wrap .i64 (i_1 + 1)) - (List.length sep : Int)))) else some (.cont ((IntKind.wrap .u32 ((IntKind.wrap .u32 ((IntKind.wrap .u32 (h__1 * 16777619)) + (IntKind.wrap .u32 (c24.toNat : Int)))) - (IntKind.wrap .u32 (x1.2 * (IntKind.wrap .u32 (c25.toNat : Int)))))), (IntKind.wrap .i64 (i_1 + 1)))) else some (.done (-1))
noncomputable def bytealg_IndexRabinKarp_string_A30 (s_ : Str) (sep : Str) (x1 : (Int × Int)) (h_ : Int) : Option Int :=
  (if (decide (h_ = x1.1)) then (cut s_ 0 (List.length sep : Int)).bind fun x10 => some (decide (x10 = sep)) else some false).bind fun t11 => if t11 then some 0 else loopM (fun s => bytealg_IndexRabinKarp_string_L22 s_ sep x1 s.1 s.2) (h_, (List.length sep : Int))
noncomputable def bytealg_IndexRabinKarp_string_L6 (s_ : Str) (sep : Str) (x1 : (Int × Int)) (h_ : Int) (i : Int) : Option (Step (Int × Int) Int) :=
  if (decide (i < (List.length sep : Int))) then (strAt s_ i).bind fun c8 => some (.cont ((IntKind.wrap .u32 ((IntKind.wrap .u32 (h_ * 16777619)) + (IntKind.wrap .u32 (c8.toNat : Int)))), (IntKind.wrap .i64 (i + 1)))) else (bytealg_IndexRabinKarp_string_A30 s_ sep x1 h_).map .done
noncomputable def bytealg_IndexRabinKarp_string (s_ : Str) (sep : Str) : Option Int :=
  (bytealg_hashStr_string sep).bind fun x1 => loopM (fun s => bytealg_IndexRabinKarp_string_L6 s_ sep x1 s.1 s.2) (0, 0)

end Go.Proofs.YtheeafnmkboblaaDoor
