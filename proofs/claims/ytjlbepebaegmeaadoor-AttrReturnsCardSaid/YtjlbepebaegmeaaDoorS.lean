/- What the functions compute, in plain Lean, printed by a program of the claim's author. -/
import Derived.Test.YtjlbepebaegmeaaDoorVmX
import Derived.Test.YtjlbepebaegmeaaDoorVmB
namespace Go.Proofs.YtjlbepebaegmeaaDoor
open Go.Vm
set_option autoImplicit false
set_option linter.unusedVariables false
set_option linter.unusedSimpArgs false
set_option maxRecDepth 100000

abbrev Str := List UInt8
structure api_Attr where
  Name : Str
  Value : Str
  Query : Bool
  deriving Inhabited
def enc_api_Attr (x : api_Attr) : PV := .agg [.str x.Name, .str x.Value, .bool x.Query]
def encT_Str_Str (x : (Str × Str)) : PV := .agg [.str x.1, .str x.2]

/- law22_small -/
noncomputable def law22_small_L9 (l : (List api_Attr)) (v8 : Int) : Option (Step Int Bool) :=
  if (decide (v8 < (List.length l : Int))) then (lsAt l v8).bind fun x11 => (if (decide (1100 < (List.length x11.Name : Int))) then some true else (lsAt l v8).bind fun x13 => some (decide (1100 < (List.length x13.Value : Int)))).bind fun t14 => if t14 then some (.done false) else some (.cont (IntKind.wrap .i64 (v8 + 1))) else some (.done true)
noncomputable def law22_small (l : (List api_Attr)) : Option Bool :=
  if (decide (40 < (List.length l : Int))) then some false else loopM (fun s => law22_small_L9 l s) 0

/- attr_blank -/
noncomputable def attr_blank (c : Int) : Option Bool :=
  some ((decide (c = 32)) || (decide (c = 9)))

/- stringslite_IndexByte -/
noncomputable def stringslite_IndexByte (a0 : Str) (a1 : Int) : Option Int := xIndexByte a0 a1

/- strings_IndexByte -/
noncomputable def strings_IndexByte (s_ : Str) (c : Int) : Option Int :=
  (stringslite_IndexByte s_ c).bind fun x1 => some x1

/- attr_until -/
noncomputable def attr_until_L6 (s_ : Str) (stops : Str) (v5 : Int) : Option (Step Int Int) :=
  if (decide (v5 < (List.length s_ : Int))) then (strAt s_ v5).bind fun c8 => (strings_IndexByte stops (c8.toNat : Int)).bind fun x9 => if (decide (0 ≤ x9)) then some (.done v5) else some (.cont (IntKind.wrap .i64 (v5 + 1))) else some (.done (List.length s_ : Int))
noncomputable def attr_until (s_ : Str) (stops : Str) : Option Int :=
  loopM (fun s => attr_until_L6 s_ stops s) 0

/- stringslite_HasPrefix -/
noncomputable def stringslite_HasPrefix (s_ : Str) (prefix_ : Str) : Option Bool :=
  (if (decide ((List.length prefix_ : Int) ≤ (List.length s_ : Int))) then (cut s_ 0 (List.length prefix_ : Int)).bind fun x2 => some (decide (x2 = prefix_)) else some false).bind fun t3 => some t3

/- strings_HasPrefix -/
noncomputable def strings_HasPrefix (s_ : Str) (prefix_ : Str) : Option Bool :=
  (stringslite_HasPrefix s_ prefix_).bind fun x1 => some x1

/- attr_quoted -/
noncomputable def attr_quoted_L13 (s_ : Str) (i : Int) (v12 : Str) : Option (Step (Int × Str) (Str × Int × Bool)) :=
  if (decide (i < (List.length s_ : Int))) then (strAt s_ i).bind fun c15 => if (!decide ((c15.toNat : Int) = 39)) then (strAt s_ i).bind fun c17 => (bAdd v12 [c17]).bind fun x18 => some (.cont ((IntKind.wrap .i64 (i + 1)), x18)) else (if (decide ((IntKind.wrap .i64 (i + 1)) = (List.length s_ : Int))) then some true else (strAt s_ (IntKind.wrap .i64 (i + 1))).bind fun c20 => some (!decide ((c20.toNat : Int) = 39))).bind fun t21 => if t21 then some (.done (v12, (IntKind.wrap .i64 (i + 1)), true)) else (bAdd v12 [(39 : UInt8)]).bind fun x23 => some (.cont ((IntKind.wrap .i64 ((IntKind.wrap .i64 (i + 1)) + 1)), x23)) else some (.done ([], 0, false))
noncomputable def attr_quoted (s_ : Str) : Option (Str × Int × Bool) :=
  loopM (fun s => attr_quoted_L13 s_ s.1 s.2) (0, ([] : Str))

/- strings_Index -/
noncomputable def strings_Index (a0 : Str) (a1 : Str) : Option Int := xIndex a0 a1

/- strings_Contains -/
noncomputable def strings_Contains (s_ : Str) (substr : Str) : Option Bool :=
  (strings_Index s_ substr).bind fun x1 => some (decide (0 ≤ x1))

/- attr_one -/
noncomputable def attr_one_K4 (s_ : Str) (x2 : Str) (p5 : Int) (p6 : Str) (p7 : Bool) : Option (api_Attr × Int × Int) :=
  (if (decide (p5 < (List.length s_ : Int))) then (strAt s_ p5).bind fun c9 => (attr_blank (c9.toNat : Int)).bind fun x10 => some (!x10) else some false).bind fun t11 => if t11 then some ((api_Attr.mk [] [] false), 0, 2) else some ((api_Attr.mk x2 p6 p7), p5, 0)
noncomputable def attr_one (s_ : Str) : Option (api_Attr × Int × Int) :=
  (attr_until s_ [32, 9, 61, 63, 39]).bind fun x1 => (cut s_ 0 x1).bind fun x2 => (cut s_ x1 (List.length s_ : Int)).bind fun x3 => (strings_HasPrefix x3 [63]).bind fun x13 => if x13 then attr_one_K4 s_ x2 (IntKind.wrap .i64 (x1 + 1)) [] true else (strings_HasPrefix x3 [61, 39]).bind fun x15 => if x15 then (cut x3 2 (List.length x3 : Int)).bind fun x17 => (attr_quoted x17).bind fun x18 => if (!x18.2.2) then some ((api_Attr.mk [] [] false), 0, 48) else attr_one_K4 s_ x2 (IntKind.wrap .i64 (x1 + (IntKind.wrap .i64 (2 + x18.2.1)))) x18.1 false else (strings_HasPrefix x3 [61]).bind fun x20 => if x20 then (attr_until x3 [32, 9]).bind fun x22 => (cut x3 1 x22).bind fun x23 => (strings_Contains x23 [39]).bind fun x24 => if x24 then some ((api_Attr.mk [] [] false), 0, 2) else attr_one_K4 s_ x2 (IntKind.wrap .i64 (x1 + x22)) x23 false else some ((api_Attr.mk [] [] false), 0, 2)

/- stringslite_TrimPrefix -/
noncomputable def stringslite_TrimPrefix (s_ : Str) (prefix_ : Str) : Option Str :=
  (stringslite_HasPrefix s_ prefix_).bind fun x1 => if x1 then (cut s_ (List.length prefix_ : Int) (List.length s_ : Int)).bind fun x3 => some x3 else some s_

/- strings_TrimPrefix -/
noncomputable def strings_TrimPrefix (s_ : Str) (prefix_ : Str) : Option Str :=
  (stringslite_TrimPrefix s_ prefix_).bind fun x1 => some x1

/- attr_isName -/
noncomputable def attr_isName_L24 (x1 : Str) (v23 : Int) : Option (Step Int Bool) :=
  if (decide (v23 < (List.length x1 : Int))) then (strAt x1 v23).bind fun c26 => if (if (decide ((c26.toNat : Int) < 97)) then (if (decide ((c26.toNat : Int) < 48)) then ((!decide ((c26.toNat : Int) = 45)) && (!decide ((c26.toNat : Int) = 95))) else ((decide (57 < (c26.toNat : Int))) && ((!decide ((c26.toNat : Int) = 45)) && (!decide ((c26.toNat : Int) = 95))))) else ((decide (122 < (c26.toNat : Int))) && (if (decide ((c26.toNat : Int) < 48)) then ((!decide ((c26.toNat : Int) = 45)) && (!decide ((c26.toNat : Int) = 95))) else ((decide (57 < (c26.toNat : Int))) && ((!decide ((c26.toNat : Int) = 45)) && (!decide ((c26.toNat : Int) = 95))))))) then some (.done false) else some (.cont (IntKind.wrap .i64 (v23 + 1))) else some (.done true)
noncomputable def attr_isName (s_ : Str) : Option Bool :=
  (strings_TrimPrefix s_ [33]).bind fun x1 => (if (decide (x1 = [])) then some true else if (decide (32 < (List.length x1 : Int))) then some true else (strAt x1 0).bind fun c4 => if (decide ((c4.toNat : Int) < 97)) then some true else (strAt x1 0).bind fun c6 => some (decide (122 < (c6.toNat : Int)))).bind fun t7 => if t7 then some false else loopM (fun s => attr_isName_L24 x1 s) 0

/- attr_check_1 -/
noncomputable def attr_check_1 (b : api_Attr) (a1 : api_Attr) : Option Bool :=
  some (decide (b.Name = a1.Name))

/- slices_IndexFunc_api_Attr_api_Attr_f49 -/
noncomputable def slices_IndexFunc_api_Attr_api_Attr_f49_L6 (s_ : (List api_Attr)) (f : api_Attr) (v5 : Int) : Option (Step Int Int) :=
  if (decide (v5 < (List.length s_ : Int))) then (lsAt s_ v5).bind fun x8 => (attr_check_1 x8 f).bind fun x9 => if x9 then some (.done v5) else some (.cont (IntKind.wrap .i64 (v5 + 1))) else some (.done (-1))
noncomputable def slices_IndexFunc_api_Attr_api_Attr_f49 (s_ : (List api_Attr)) (f : api_Attr) : Option Int :=
  loopM (fun s => slices_IndexFunc_api_Attr_api_Attr_f49_L6 s_ f s) 0

/- slices_ContainsFunc_api_Attr_api_Attr_f49 -/
noncomputable def slices_ContainsFunc_api_Attr_api_Attr_f49 (s_ : (List api_Attr)) (f : api_Attr) : Option Bool :=
  (slices_IndexFunc_api_Attr_api_Attr_f49 s_ f).bind fun x1 => some (decide (0 ≤ x1))

/- attr_check -/
noncomputable def attr_check (before : (List api_Attr)) (a : api_Attr) : Option Int :=
  if (decide (32 ≤ (List.length before : Int))) then some 22 else (attr_isName a.Name).bind fun x2 => if (!x2) then some 6 else if (a.Query && (!decide (a.Value = []))) then some 2 else (attr_until a.Value [0, 10, 13]).bind fun x7 => if (decide (x7 < (List.length a.Value : Int))) then some 2 else if (decide (1024 < (List.length a.Value : Int))) then some 4 else (slices_ContainsFunc_api_Attr_api_Attr_f49 before a).bind fun x10 => if x10 then some 7 else some 0

/- attr_Parse -/
noncomputable def attr_Parse_K22 (i : Int) (out : (List api_Attr)) (x21 : (api_Attr × Int × Int)) (p23 : Int) : Option (Step (Int × (List api_Attr)) ((List api_Attr) × Int × Int)) :=
  if (!decide (p23 = 0)) then some (.done (([] : (List api_Attr)), i, p23)) else (appL 40 out [x21.1]).bind fun x25 => some (.cont ((IntKind.wrap .i64 (i + x21.2.1)), x25))
noncomputable def attr_Parse_L15 (s_ : Str) (i : Int) (out : (List api_Attr)) : Option (Step (Int × (List api_Attr)) ((List api_Attr) × Int × Int)) :=
  if (decide (i < (List.length s_ : Int))) then (strAt s_ i).bind fun c17 => (attr_blank (c17.toNat : Int)).bind fun x18 => if x18 then some (.cont ((IntKind.wrap .i64 (i + 1)), out)) else (cut s_ i (List.length s_ : Int)).bind fun x20 => (attr_one x20).bind fun x21 => if (decide (x21.2.2 = 0)) then (attr_check out x21.1).bind fun x27 => attr_Parse_K22 i out x21 x27 else attr_Parse_K22 i out x21 x21.2.2 else some (.done (out, 0, 0))
noncomputable def attr_Parse (s_ : Str) : Option ((List api_Attr) × Int × Int) :=
  loopM (fun s => attr_Parse_L15 s_ s.1 s.2) (0, ([] : List api_Attr))

/- attr_Check -/
noncomputable def attr_Check_L7 (l : (List api_Attr)) (v6 : Int) : Option (Step Int Int) :=
  if (decide (v6 < (List.length l : Int))) then (lsAt l v6).bind fun x9 => (cut l 0 v6).bind fun x10 => (attr_check x10 x9).bind fun x11 => if (!decide (x11 = 0)) then some (.done x11) else some (.cont (IntKind.wrap .i64 (v6 + 1))) else some (.done 0)
noncomputable def attr_Check (l : (List api_Attr)) : Option Int :=
  loopM (fun s => attr_Check_L7 l s) 0

/- strings_ReplaceAll -/
noncomputable def strings_ReplaceAll (a0 : Str) (a1 : Str) (a2 : Str) : Option Str := xReplaceAll a0 a1 a2

/- attr_quote -/
noncomputable def attr_quote (s_ : Str) : Option Str :=
  (if (!decide (s_ = [])) then (attr_until s_ [32, 9, 39]).bind fun x2 => some (decide (x2 = (List.length s_ : Int))) else some false).bind fun t3 => if t3 then some s_ else (strings_ReplaceAll s_ [39] [39, 39]).bind fun x5 => (catS [39] x5).bind fun x6 => (catS x6 [39]).bind fun x7 => some x7

/- strings_Join -/
noncomputable def strings_Join (a0 : (List Str)) (a1 : Str) : Option Str := xJoin a0 a1

/- attr_Print -/
noncomputable def attr_Print_A26 (words : (List Str)) : Option (Str × Int) :=
  (strings_Join words [32]).bind fun x25 => some (x25, 0)
noncomputable def attr_Print_L15 (l : (List api_Attr)) (v13 : Int) (words : (List Str)) : Option (Step (Int × (List Str)) (Str × Int)) :=
  if (decide (v13 < (List.length l : Int))) then (lsAt l v13).bind fun x17 => if x17.Query then (catS x17.Name [63]).bind fun x19 => (appL 16 words [x19]).bind fun x20 => some (.cont ((IntKind.wrap .i64 (v13 + 1)), x20)) else (catS x17.Name [61]).bind fun x21 => (attr_quote x17.Value).bind fun x22 => (catS x21 x22).bind fun x23 => (appL 16 words [x23]).bind fun x24 => some (.cont ((IntKind.wrap .i64 (v13 + 1)), x24)) else (attr_Print_A26 words).map .done
noncomputable def attr_Print (l : (List api_Attr)) : Option (Str × Int) :=
  (attr_Check l).bind fun x1 => if (!decide (x1 = 0)) then some ([], x1) else (mkC 16 ([] : Str) 0 (List.length l : Int)).bind fun x3 => loopM (fun s => attr_Print_L15 l s.1 s.2) (0, x3)

/- attr_index_1 -/
noncomputable def attr_index_1 (a : api_Attr) (a1 : Str) : Option Bool :=
  some ((!a.Query) && (decide (a.Name = a1)))

/- slices_IndexFunc_api_Attr_api_Attr_f62 -/
noncomputable def slices_IndexFunc_api_Attr_api_Attr_f62_L6 (s_ : (List api_Attr)) (f : Str) (v5 : Int) : Option (Step Int Int) :=
  if (decide (v5 < (List.length s_ : Int))) then (lsAt s_ v5).bind fun x8 => (attr_index_1 x8 f).bind fun x9 => if x9 then some (.done v5) else some (.cont (IntKind.wrap .i64 (v5 + 1))) else some (.done (-1))
noncomputable def slices_IndexFunc_api_Attr_api_Attr_f62 (s_ : (List api_Attr)) (f : Str) : Option Int :=
  loopM (fun s => slices_IndexFunc_api_Attr_api_Attr_f62_L6 s_ f s) 0

/- attr_index -/
noncomputable def attr_index (l : (List api_Attr)) (name : Str) : Option Int :=
  (slices_IndexFunc_api_Attr_api_Attr_f62 l name).bind fun x1 => some x1

/- attr_Find -/
noncomputable def attr_Find (l : (List api_Attr)) (name : Str) : Option (Str × Bool) :=
  (attr_index l name).bind fun x1 => if (decide (x1 < 0)) then some ([], false) else (lsAt l x1).bind fun x3 => some (x3.Value, true)

/- slices_Clone_api_Attr_api_Attr_n -/
noncomputable def slices_Clone_api_Attr_api_Attr_n : Option (List api_Attr) :=
  some ([] : (List api_Attr))

/- slices_Clone_api_Attr_api_Attr_e -/
noncomputable def slices_Clone_api_Attr_api_Attr_e : Option (List api_Attr) :=
  (appL 40 ([] : List api_Attr) []).bind fun x1 => some x1

/- slices_Clone_api_Attr_api_Attr -/
noncomputable def slices_Clone_api_Attr_api_Attr (s_ : (List api_Attr)) : Option (List api_Attr) :=
  (appL 40 ([] : List api_Attr) s_).bind fun x1 => some x1

/- attr_Public_1 -/
noncomputable def attr_Public_1 (a : api_Attr) : Option Bool :=
  (strings_HasPrefix a.Name [33]).bind fun x1 => some x1

/- slices_IndexFunc_api_Attr_api_Attr_f41 -/
noncomputable def slices_IndexFunc_api_Attr_api_Attr_f41_L6 (s_ : (List api_Attr)) (v5 : Int) : Option (Step Int Int) :=
  if (decide (v5 < (List.length s_ : Int))) then (lsAt s_ v5).bind fun x8 => (attr_Public_1 x8).bind fun x9 => if x9 then some (.done v5) else some (.cont (IntKind.wrap .i64 (v5 + 1))) else some (.done (-1))
noncomputable def slices_IndexFunc_api_Attr_api_Attr_f41 (s_ : (List api_Attr)) : Option Int :=
  loopM (fun s => slices_IndexFunc_api_Attr_api_Attr_f41_L6 s_ s) 0

/- slices_DeleteFunc_api_Attr_api_Attr_f41 -/
noncomputable def slices_DeleteFunc_api_Attr_api_Attr_f41_A16 (s_ : (List api_Attr)) (x1 : Int) : Option (List api_Attr) :=
  (cut s_ x1 (List.length s_ : Int)).bind fun x15 => none
noncomputable def slices_DeleteFunc_api_Attr_api_Attr_f41_L9 (s_ : (List api_Attr)) (x1 : Int) (j : Int) : Option (Step Int (List api_Attr)) :=
  if (decide (j < (List.length s_ : Int))) then (lsAt s_ j).bind fun x11 => (attr_Public_1 x11).bind fun x12 => if (!x12) then (lsAt s_ x1).bind fun x14 => none else some (.cont (IntKind.wrap .i64 (j + 1))) else (slices_DeleteFunc_api_Attr_api_Attr_f41_A16 s_ x1).map .done
noncomputable def slices_DeleteFunc_api_Attr_api_Attr_f41 (s_ : (List api_Attr)) : Option (List api_Attr) :=
  (slices_IndexFunc_api_Attr_api_Attr_f41 s_).bind fun x1 => if (decide (x1 = (-1))) then some s_ else loopM (fun s => slices_DeleteFunc_api_Attr_api_Attr_f41_L9 s_ x1 s) (IntKind.wrap .i64 (x1 + 1))

/- slices_DeleteFunc_api_Attr_api_Attr_o_f41 -/
noncomputable def slices_DeleteFunc_api_Attr_api_Attr_o_f41_A18 (i : Int) (s__1 : (List api_Attr)) : Option (List api_Attr) :=
  (cut s__1 0 i).bind fun x17 => some x17
noncomputable def slices_DeleteFunc_api_Attr_api_Attr_o_f41_L11 (i : Int) (j : Int) (s__1 : (List api_Attr)) : Option (Step (Int × Int × (List api_Attr)) (List api_Attr)) :=
  if (decide (j < (List.length s__1 : Int))) then (lsAt s__1 j).bind fun x13 => (attr_Public_1 x13).bind fun x14 => if (!x14) then (lsAt s__1 i).bind fun x16 => some (.cont ((IntKind.wrap .i64 (i + 1)), (IntKind.wrap .i64 (j + 1)), (List.set s__1 (Int.toNat i) x13))) else some (.cont (i, (IntKind.wrap .i64 (j + 1)), s__1)) else (slices_DeleteFunc_api_Attr_api_Attr_o_f41_A18 i s__1).map .done
noncomputable def slices_DeleteFunc_api_Attr_api_Attr_o_f41 (s_ : (List api_Attr)) : Option (List api_Attr) :=
  (slices_IndexFunc_api_Attr_api_Attr_f41 s_).bind fun x1 => if (decide (x1 = (-1))) then some s_ else loopM (fun s => slices_DeleteFunc_api_Attr_api_Attr_o_f41_L11 s.1 s.2.1 s.2.2) (x1, (IntKind.wrap .i64 (x1 + 1)), s_)

/- attr_Public -/
noncomputable def attr_Public (l : (List api_Attr)) : Option (List api_Attr) :=
  (slices_Clone_api_Attr_api_Attr l).bind fun x1 => (slices_DeleteFunc_api_Attr_api_Attr_o_f41 x1).bind fun x2 => some x2

/- attr_Matches -/
noncomputable def attr_Matches_L9 (l : (List api_Attr)) (pattern : (List api_Attr)) (v8 : Int) : Option (Step Int Bool) :=
  if (decide (v8 < (List.length pattern : Int))) then (lsAt pattern v8).bind fun x11 => (attr_Find l x11.Name).bind fun x12 => if ((!x12.2) || ((!x11.Query) && (!decide (x12.1 = x11.Value)))) then some (.done false) else some (.cont (IntKind.wrap .i64 (v8 + 1))) else some (.done true)
noncomputable def attr_Matches (l : (List api_Attr)) (pattern : (List api_Attr)) : Option Bool :=
  loopM (fun s => attr_Matches_L9 l pattern s) 0

/- law22_awake -/
noncomputable def law22_awake : Option Bool :=
  (attr_Parse [117, 115, 101, 114, 61, 97, 110, 110, 32, 33, 115, 101, 99, 114, 101, 116, 61, 39, 105, 116, 39, 39, 115, 32, 109, 101, 39, 32, 100, 111, 109, 63]).bind fun x1 => (if (!decide (x1.2.2 = 0)) then some true else if (!decide (x1.2.1 = 0)) then some true else if (!decide ((List.length x1.1 : Int) = 3)) then some true else (lsAt x1.1 1).bind fun x5 => if (!decide (x5.Value = [105, 116, 39, 115, 32, 109, 101])) then some true else (lsAt x1.1 2).bind fun x7 => some (!x7.Query)).bind fun t8 => if t8 then some false else (attr_Print x1.1).bind fun x10 => (attr_Find x1.1 [117, 115, 101, 114]).bind fun x11 => (if (decide (x10.1 = [117, 115, 101, 114, 61, 97, 110, 110, 32, 33, 115, 101, 99, 114, 101, 116, 61, 39, 105, 116, 39, 39, 115, 32, 109, 101, 39, 32, 100, 111, 109, 63])) then if (decide (x10.2 = 0)) then if (decide (x11.1 = [97, 110, 110])) then if x11.2 then (attr_Public x1.1).bind fun x16 => if (decide ((List.length x16 : Int) = 2)) then (cut x1.1 0 1).bind fun x18 => (attr_Matches x1.1 x18).bind fun x19 => if x19 then (attr_Matches x1.1 x1.1).bind fun x21 => some (!x21) else some false else some false else some false else some false else some false else some false).bind fun t22 => some t22

/- ref22_Secret -/
noncomputable def ref22_Secret (name : Str) : Option Bool :=
  (if (decide (0 < (List.length name : Int))) then (strAt name 0).bind fun c2 => some (decide ((c2.toNat : Int) = 33)) else some false).bind fun t3 => some t3

/- ref22_Name -/
noncomputable def ref22_Name_L12 (p2 : Str) (i : Int) : Option (Step Int Bool) :=
  if (decide (i < (List.length p2 : Int))) then (strAt p2 i).bind fun c14 => (if (decide (97 ≤ (c14.toNat : Int))) then (strAt p2 i).bind fun c16 => some (decide ((c16.toNat : Int) ≤ 122)) else some false).bind fun t17 => (if (!t17) then if (decide (i = 0)) then some true else (strAt p2 i).bind fun c20 => if (decide (48 ≤ (c20.toNat : Int))) then (strAt p2 i).bind fun c22 => if (decide ((c22.toNat : Int) ≤ 57)) then some false else (strAt p2 i).bind fun c24 => if (decide ((c24.toNat : Int) = 45)) then some false else (strAt p2 i).bind fun c26 => some (!(decide ((c26.toNat : Int) = 95))) else (strAt p2 i).bind fun c27 => if (decide ((c27.toNat : Int) = 45)) then some false else (strAt p2 i).bind fun c29 => some (!(decide ((c29.toNat : Int) = 95))) else some false).bind fun t30 => if t30 then some (.done false) else some (.cont (IntKind.wrap .i64 (i + 1))) else some (.done ((decide (1 ≤ (List.length p2 : Int))) && (decide ((List.length p2 : Int) ≤ 32))))
noncomputable def ref22_Name_K1 (p2 : Str) : Option Bool :=
  loopM (fun s => ref22_Name_L12 p2 s) 0
noncomputable def ref22_Name (s_ : Str) : Option Bool :=
  (ref22_Secret s_).bind fun x34 => if x34 then (cut s_ 1 (List.length s_ : Int)).bind fun x36 => ref22_Name_K1 x36 else ref22_Name_K1 s_

/- ref22_plain -/
noncomputable def ref22_plain_L10 (s_ : Str) (i : Int) : Option (Step Int Bool) :=
  if (decide (i < (List.length s_ : Int))) then (strAt s_ i).bind fun c12 => (if (decide ((c12.toNat : Int) = 0)) then some true else (strAt s_ i).bind fun c14 => if (decide ((c14.toNat : Int) = 10)) then some true else (strAt s_ i).bind fun c16 => some (decide ((c16.toNat : Int) = 13))).bind fun t17 => if t17 then some (.done false) else some (.cont (IntKind.wrap .i64 (i + 1))) else some (.done true)
noncomputable def ref22_plain (s_ : Str) : Option Bool :=
  loopM (fun s => ref22_plain_L10 s_ s) 0

/- ref22_one -/
noncomputable def ref22_one_L15 (before : (List api_Attr)) (a : api_Attr) (i : Int) : Option (Step Int Int) :=
  if (decide (i < (List.length before : Int))) then (lsAt before i).bind fun x17 => if (decide (x17.Name = a.Name)) then some (.done 7) else some (.cont (IntKind.wrap .i64 (i + 1))) else some (.done 0)
noncomputable def ref22_one (before : (List api_Attr)) (a : api_Attr) : Option Int :=
  if (decide (32 ≤ (List.length before : Int))) then some 22 else (ref22_Name a.Name).bind fun x2 => if (!x2) then some 6 else (if a.Query then if (!decide (a.Value = [])) then some true else (ref22_plain a.Value).bind fun x6 => some (!x6) else (ref22_plain a.Value).bind fun x7 => some (!x7)).bind fun t8 => if t8 then some 2 else if (decide (1024 < (List.length a.Value : Int))) then some 4 else loopM (fun s => ref22_one_L15 before a s) 0

/- ref22_Check -/
noncomputable def ref22_Check_L7 (l : (List api_Attr)) (i : Int) : Option (Step Int Int) :=
  if (decide (i < (List.length l : Int))) then (cut l 0 i).bind fun x9 => (lsAt l i).bind fun x10 => (ref22_one x9 x10).bind fun x11 => if (!decide (x11 = 0)) then some (.done x11) else some (.cont (IntKind.wrap .i64 (i + 1))) else some (.done 0)
noncomputable def ref22_Check (l : (List api_Attr)) : Option Int :=
  loopM (fun s => ref22_Check_L7 l s) 0

/- law22_AttrChecks -/
noncomputable def law22_AttrChecks (l : (List api_Attr)) : Option Bool :=
  (law22_small l).bind fun x1 => if (!x1) then (law22_awake).bind fun x3 => some x3 else (attr_Check l).bind fun x4 => (ref22_Check l).bind fun x5 => (if (decide (x4 = x5)) then (law22_awake).bind fun x7 => some x7 else some false).bind fun t8 => some t8

/- ref22_Quote -/
noncomputable def ref22_Quote_A34 (s_ : Str) (out : Str) (odd : Bool) : Option Str :=
  if odd then (catS [39] out).bind fun x32 => (catS x32 [39]).bind fun x33 => some x33 else some s_
noncomputable def ref22_Quote_L17 (s_ : Str) (out : Str) (odd : Bool) (i : Int) : Option (Step (Str × Bool × Int) Str) :=
  if (decide (i < (List.length s_ : Int))) then (if odd then some true else (strAt s_ i).bind fun c20 => if (decide ((c20.toNat : Int) = 32)) then some true else (strAt s_ i).bind fun c22 => if (decide ((c22.toNat : Int) = 9)) then some true else (strAt s_ i).bind fun c24 => some (decide ((c24.toNat : Int) = 39))).bind fun t25 => (cut s_ i (IntKind.wrap .i64 (i + 1))).bind fun x26 => (catS out x26).bind fun x27 => (strAt s_ i).bind fun c28 => if (decide ((c28.toNat : Int) = 39)) then (catS x27 [39]).bind fun x30 => some (.cont (x30, t25, (IntKind.wrap .i64 (i + 1)))) else some (.cont (x27, t25, (IntKind.wrap .i64 (i + 1)))) else (ref22_Quote_A34 s_ out odd).map .done
noncomputable def ref22_Quote (s_ : Str) : Option Str :=
  loopM (fun s => ref22_Quote_L17 s_ s.1 s.2.1 s.2.2) ([], (decide (s_ = [])), 0)

/- ref22_Print -/
noncomputable def ref22_Print_K19 (l : (List api_Attr)) (i : Int) (p20 : Str) : Option (Step (Str × Int) (Str × Int)) :=
  (lsAt l i).bind fun x21 => if x21.Query then (lsAt l i).bind fun x23 => (catS p20 x23.Name).bind fun x24 => (catS x24 [63]).bind fun x25 => some (.cont (x25, (IntKind.wrap .i64 (i + 1)))) else (lsAt l i).bind fun x26 => (catS p20 x26.Name).bind fun x27 => (catS x27 [61]).bind fun x28 => (lsAt l i).bind fun x29 => (ref22_Quote x29.Value).bind fun x30 => (catS x28 x30).bind fun x31 => some (.cont (x31, (IntKind.wrap .i64 (i + 1))))
noncomputable def ref22_Print_L17 (l : (List api_Attr)) (s_ : Str) (i : Int) : Option (Step (Str × Int) (Str × Int)) :=
  if (decide (i < (List.length l : Int))) then if (decide (0 < i)) then (catS s_ [32]).bind fun x33 => ref22_Print_K19 l i x33 else ref22_Print_K19 l i s_ else some (.done (s_, 0))
noncomputable def ref22_Print (l : (List api_Attr)) : Option (Str × Int) :=
  (ref22_Check l).bind fun x1 => if (!decide (x1 = 0)) then some ([], x1) else loopM (fun s => ref22_Print_L17 l s.1 s.2) ([], 0)

/- law22_AttrPrints -/
noncomputable def law22_AttrPrints (l : (List api_Attr)) : Option Bool :=
  (law22_small l).bind fun x1 => if (!x1) then (law22_awake).bind fun x3 => some x3 else (attr_Print l).bind fun x4 => (ref22_Print l).bind fun x5 => (if (decide (x4.1 = x5.1)) then if (decide (x4.2 = x5.2)) then (law22_awake).bind fun x8 => some x8 else some false else some false).bind fun t9 => some t9

/- ref22_space -/
noncomputable def ref22_space (c : Int) : Option Bool :=
  some ((decide (c = 32)) || (decide (c = 9)))

/- ref22_ends -/
noncomputable def ref22_ends (s_ : Str) (at_ : Int) : Option Bool :=
  (if (decide (at_ = (List.length s_ : Int))) then some true else (strAt s_ at_).bind fun c2 => (ref22_space (c2.toNat : Int)).bind fun x3 => some x3).bind fun t4 => some t4

/- ref22_quoted -/
noncomputable def ref22_quoted_L13 (s_ : Str) (at__1 : Int) (out : Str) : Option (Step (Int × Str) (Str × Int × Int)) :=
  if (decide (at__1 < (List.length s_ : Int))) then (strAt s_ at__1).bind fun c15 => if (!decide ((c15.toNat : Int) = 39)) then (cut s_ at__1 (IntKind.wrap .i64 (at__1 + 1))).bind fun x17 => (catS out x17).bind fun x18 => some (.cont ((IntKind.wrap .i64 (at__1 + 1)), x18)) else (if (decide ((IntKind.wrap .i64 (at__1 + 1)) = (List.length s_ : Int))) then some true else (strAt s_ (IntKind.wrap .i64 (at__1 + 1))).bind fun c20 => some (!decide ((c20.toNat : Int) = 39))).bind fun t21 => if t21 then some (.done (out, (IntKind.wrap .i64 (at__1 + 1)), 0)) else (catS out [39]).bind fun x23 => some (.cont ((IntKind.wrap .i64 (at__1 + 2)), x23)) else some (.done ([], at__1, 48))
noncomputable def ref22_quoted (s_ : Str) (at_ : Int) : Option (Str × Int × Int) :=
  loopM (fun s => ref22_quoted_L13 s_ s.1 s.2) (at_, [])

/- ref22_read -/
noncomputable def ref22_read_K41 (x25 : Str) (x40 : (Str × Int × Int)) (p42 : Int) : Option (api_Attr × Int × Int) :=
  some ((api_Attr.mk x25 x40.1 false), x40.2.1, p42)
noncomputable def ref22_read_A58 (s_ : Str) (at__1 : Int) (x25 : Str) (at__2 : Int) : Option (api_Attr × Int × Int) :=
  (cut s_ (IntKind.wrap .i64 (at__1 + 1)) at__2).bind fun x57 => some ((api_Attr.mk x25 x57 false), at__2, 0)
noncomputable def ref22_read_L52 (s_ : Str) (at__1 : Int) (x25 : Str) (at__2 : Int) : Option (Step Int (api_Attr × Int × Int)) :=
  (ref22_ends s_ at__2).bind fun x53 => if (!x53) then (strAt s_ at__2).bind fun c55 => if (decide ((c55.toNat : Int) = 39)) then some (.done ((api_Attr.mk x25 [] false), at__2, 2)) else some (.cont (IntKind.wrap .i64 (at__2 + 1))) else (ref22_read_A58 s_ at__1 x25 at__2).map .done
noncomputable def ref22_read_A59 (s_ : Str) (at_ : Int) (at__1 : Int) : Option (api_Attr × Int × Int) :=
  (cut s_ at_ at__1).bind fun x25 => (if (decide (at__1 < (List.length s_ : Int))) then (strAt s_ at__1).bind fun c27 => if (decide ((c27.toNat : Int) = 63)) then (ref22_ends s_ (IntKind.wrap .i64 (at__1 + 1))).bind fun x29 => some x29 else some false else some false).bind fun t30 => if t30 then some ((api_Attr.mk x25 [] true), (IntKind.wrap .i64 (at__1 + 1)), 0) else (if (decide (at__1 = (List.length s_ : Int))) then some true else (strAt s_ at__1).bind fun c33 => some (!decide ((c33.toNat : Int) = 61))).bind fun t34 => if t34 then some ((api_Attr.mk x25 [] false), at__1, 2) else (if (decide ((IntKind.wrap .i64 (at__1 + 1)) < (List.length s_ : Int))) then (strAt s_ (IntKind.wrap .i64 (at__1 + 1))).bind fun c37 => some (decide ((c37.toNat : Int) = 39)) else some false).bind fun t38 => if t38 then (ref22_quoted s_ (IntKind.wrap .i64 ((IntKind.wrap .i64 (at__1 + 1)) + 1))).bind fun x40 => (if (decide (x40.2.2 = 0)) then (ref22_ends s_ x40.2.1).bind fun x44 => some (!x44) else some false).bind fun t45 => if t45 then ref22_read_K41 x25 x40 2 else ref22_read_K41 x25 x40 x40.2.2 else loopM (fun s => ref22_read_L52 s_ at__1 x25 s) (IntKind.wrap .i64 (at__1 + 1))
noncomputable def ref22_read_L13 (s_ : Str) (at_ : Int) (at__1 : Int) : Option (Step Int (api_Attr × Int × Int)) :=
  (if (decide (at__1 < (List.length s_ : Int))) then (strAt s_ at__1).bind fun c15 => (ref22_space (c15.toNat : Int)).bind fun x16 => if (!x16) then (strAt s_ at__1).bind fun c18 => if (!decide ((c18.toNat : Int) = 61)) then (strAt s_ at__1).bind fun c20 => if (!decide ((c20.toNat : Int) = 63)) then (strAt s_ at__1).bind fun c22 => some (!decide ((c22.toNat : Int) = 39)) else some false else some false else some false else some false).bind fun t23 => if t23 then some (.cont (IntKind.wrap .i64 (at__1 + 1))) else (ref22_read_A59 s_ at_ at__1).map .done
noncomputable def ref22_read (s_ : Str) (at_ : Int) : Option (api_Attr × Int × Int) :=
  loopM (fun s => ref22_read_L13 s_ at_ s) at_

/- ref22_Parse -/
noncomputable def ref22_Parse_K39 (out : (List api_Attr)) (at__1 : Int) (x38 : (api_Attr × Int × Int)) (p40 : Int) : Option (Step (Int × (List api_Attr)) ((List api_Attr) × Int × Int)) :=
  if (!decide (p40 = 0)) then some (.done (([] : (List api_Attr)), at__1, p40)) else (appL 40 out [x38.1]).bind fun x42 => some (.cont (x38.2.1, x42))
noncomputable def ref22_Parse_A45 (s_ : Str) (out : (List api_Attr)) (at__1 : Int) : Option (Step (Int × (List api_Attr)) ((List api_Attr) × Int × Int)) :=
  if (decide (at__1 = (List.length s_ : Int))) then some (.done (out, 0, 0)) else (ref22_read s_ at__1).bind fun x38 => if (decide (x38.2.2 = 0)) then (ref22_one out x38.1).bind fun x44 => ref22_Parse_K39 out at__1 x38 x44 else ref22_Parse_K39 out at__1 x38 x38.2.2
noncomputable def ref22_Parse_L31 (s_ : Str) (out : (List api_Attr)) (at__1 : Int) : Option (Step Int (Step (Int × (List api_Attr)) ((List api_Attr) × Int × Int))) :=
  (if (decide (at__1 < (List.length s_ : Int))) then (strAt s_ at__1).bind fun c33 => (ref22_space (c33.toNat : Int)).bind fun x34 => some x34 else some false).bind fun t35 => if t35 then some (.cont (IntKind.wrap .i64 (at__1 + 1))) else (ref22_Parse_A45 s_ out at__1).map .done
noncomputable def ref22_Parse_L24 (s_ : Str) (at_ : Int) (out : (List api_Attr)) : Option (Step (Int × (List api_Attr)) ((List api_Attr) × Int × Int)) :=
  loopM (fun s => ref22_Parse_L31 s_ out s) at_
noncomputable def ref22_Parse (s_ : Str) : Option ((List api_Attr) × Int × Int) :=
  loopM (fun s => ref22_Parse_L24 s_ s.1 s.2) (0, ([] : List api_Attr))

/- ref22_Same -/
noncomputable def ref22_Same_L7 (a : (List api_Attr)) (b : (List api_Attr)) (i : Int) : Option (Step Int Bool) :=
  if (decide (i < (List.length a : Int))) then (lsAt a i).bind fun x9 => (lsAt b i).bind fun x10 => if (!(decide (x9.Name = x10.Name) && (decide (x9.Value = x10.Value) && (decide (x9.Query = x10.Query) && true)))) then some (.done false) else some (.cont (IntKind.wrap .i64 (i + 1))) else some (.done true)
noncomputable def ref22_Same (a : (List api_Attr)) (b : (List api_Attr)) : Option Bool :=
  if (!decide ((List.length a : Int) = (List.length b : Int))) then some false else loopM (fun s => ref22_Same_L7 a b s) 0

/- law22_AttrParses -/
noncomputable def law22_AttrParses (s_ : Str) : Option Bool :=
  if (decide (3000 < (List.length s_ : Int))) then (law22_awake).bind fun x2 => some x2 else (attr_Parse s_).bind fun x3 => (ref22_Parse s_).bind fun x4 => (ref22_Same x3.1 x4.1).bind fun x5 => (if x5 then if (decide (x3.2.1 = x4.2.1)) then if (decide (x3.2.2 = x4.2.2)) then (law22_awake).bind fun x9 => some x9 else some false else some false else some false).bind fun t10 => some t10

/- ref22_Find -/
noncomputable def ref22_Find_L9 (l : (List api_Attr)) (name : Str) (i : Int) : Option (Step Int (Str × Bool)) :=
  if (decide (i < (List.length l : Int))) then (lsAt l i).bind fun x11 => (if (decide (x11.Name = name)) then (lsAt l i).bind fun x13 => some (!x13.Query) else some false).bind fun t14 => if t14 then (lsAt l i).bind fun x16 => some (.done (x16.Value, true)) else some (.cont (IntKind.wrap .i64 (i + 1))) else some (.done ([], false))
noncomputable def ref22_Find (l : (List api_Attr)) (name : Str) : Option (Str × Bool) :=
  loopM (fun s => ref22_Find_L9 l name s) 0

/- ref22_Matches -/
noncomputable def ref22_Matches_L11 (l : (List api_Attr)) (pattern : (List api_Attr)) (i : Int) : Option (Step Int Bool) :=
  if (decide (i < (List.length pattern : Int))) then (lsAt pattern i).bind fun x13 => (ref22_Find l x13.Name).bind fun x14 => (if (!x14.2) then some true else (lsAt pattern i).bind fun x16 => if (!x16.Query) then (lsAt pattern i).bind fun x18 => some (!decide (x14.1 = x18.Value)) else some false).bind fun t19 => if t19 then some (.done false) else some (.cont (IntKind.wrap .i64 (i + 1))) else some (.done true)
noncomputable def ref22_Matches (l : (List api_Attr)) (pattern : (List api_Attr)) : Option Bool :=
  loopM (fun s => ref22_Matches_L11 l pattern s) 0

/- ref22_Public -/
noncomputable def ref22_Public_L9 (l : (List api_Attr)) (i : Int) (out : (List api_Attr)) : Option (Step (Int × (List api_Attr)) (List api_Attr)) :=
  if (decide (i < (List.length l : Int))) then (lsAt l i).bind fun x11 => (ref22_Secret x11.Name).bind fun x12 => if (!x12) then (lsAt l i).bind fun x14 => (appL 40 out [x14]).bind fun x15 => some (.cont ((IntKind.wrap .i64 (i + 1)), x15)) else some (.cont ((IntKind.wrap .i64 (i + 1)), out)) else some (.done out)
noncomputable def ref22_Public (l : (List api_Attr)) : Option (List api_Attr) :=
  loopM (fun s => ref22_Public_L9 l s.1 s.2) (0, ([] : List api_Attr))

/- law22_AttrMatches -/
noncomputable def law22_AttrMatches (l : (List api_Attr)) (pattern : (List api_Attr)) : Option Bool :=
  (law22_small l).bind fun x1 => (if (!x1) then some true else (law22_small pattern).bind fun x3 => some (!x3)).bind fun t4 => if t4 then (law22_awake).bind fun x6 => some x6 else (attr_Matches l pattern).bind fun x7 => (ref22_Matches l pattern).bind fun x8 => (if (decide (x7 = x8)) then (attr_Public l).bind fun x10 => (ref22_Public l).bind fun x11 => (ref22_Same x10 x11).bind fun x12 => if x12 then (law22_awake).bind fun x14 => some x14 else some false else some false).bind fun t15 => some t15

/- law22_AttrReturns -/
noncomputable def law22_AttrReturns (l : (List api_Attr)) : Option Bool :=
  (law22_small l).bind fun x1 => (if (!x1) then some true else (ref22_Check l).bind fun x3 => some (!decide (x3 = 0))).bind fun t4 => if t4 then (law22_awake).bind fun x6 => some x6 else (attr_Print l).bind fun x7 => (attr_Parse x7.1).bind fun x8 => (if (decide (x7.2 = 0)) then if (decide (x8.2.2 = 0)) then if (decide (x8.2.1 = 0)) then (ref22_Same l x8.1).bind fun x12 => if x12 then (law22_awake).bind fun x14 => some x14 else some false else some false else some false else some false).bind fun t15 => some t15

/- law22_AttrSelects -/
noncomputable def law22_AttrSelects_A26 (l : (List api_Attr)) (from_ : Int) (to : Int) : Option Bool :=
  (ref22_Check l).bind fun x16 => if ((!decide (x16 = 0)) || (decide ((min (IntKind.wrap .i64 to) (List.length l : Int)) < (min (IntKind.wrap .i64 from_) (List.length l : Int))))) then (law22_awake).bind fun x20 => some x20 else (cut l (min (IntKind.wrap .i64 from_) (List.length l : Int)) (min (IntKind.wrap .i64 to) (List.length l : Int))).bind fun x21 => (attr_Matches l x21).bind fun x22 => (if x22 then (law22_awake).bind fun x24 => some x24 else some false).bind fun t25 => some t25
noncomputable def law22_AttrSelects_L11 (l : (List api_Attr)) (from_ : Int) (to : Int) (v10 : Int) : Option (Step Int Bool) :=
  if (decide (v10 < (List.length l : Int))) then (lsAt l v10).bind fun x13 => if x13.Query then (law22_awake).bind fun x15 => some (.done x15) else some (.cont (IntKind.wrap .i64 (v10 + 1))) else (law22_AttrSelects_A26 l from_ to).map .done
noncomputable def law22_AttrSelects (l : (List api_Attr)) (from_ : Int) (to : Int) : Option Bool :=
  (law22_small l).bind fun x1 => if (!x1) then (law22_awake).bind fun x3 => some x3 else (attr_Matches l ([] : (List api_Attr))).bind fun x4 => if (!x4) then some false else loopM (fun s => law22_AttrSelects_L11 l from_ to s) 0

/- attr_Set -/
noncomputable def attr_Set (l : (List api_Attr)) (name : Str) (value : Str) : Option (List api_Attr) :=
  (slices_Clone_api_Attr_api_Attr l).bind fun x1 => (attr_index x1 name).bind fun x2 => if (decide (0 ≤ x2)) then (lsAt x1 x2).bind fun x4 => some (List.set x1 (Int.toNat x2) (api_Attr.mk x4.Name value x4.Query)) else (appL 40 x1 [(api_Attr.mk name value false)]).bind fun x5 => some x5

/- ref22_Set -/
noncomputable def ref22_Set_K16 (i : Int) (out : (List api_Attr)) (p17 : Bool) (p18 : api_Attr) : Option (Step (Bool × Int × (List api_Attr)) (List api_Attr)) :=
  (appL 40 out [p18]).bind fun x19 => some (.cont (p17, (IntKind.wrap .i64 (i + 1)), x19))
noncomputable def ref22_Set_A26 (name : Str) (value : Str) (done : Bool) (out : (List api_Attr)) : Option (List api_Attr) :=
  if (!done) then (appL 40 out [(api_Attr.mk name value false)]).bind fun x25 => some x25 else some out
noncomputable def ref22_Set_L13 (l : (List api_Attr)) (name : Str) (value : Str) (done : Bool) (i : Int) (out : (List api_Attr)) : Option (Step (Bool × Int × (List api_Attr)) (List api_Attr)) :=
  if (decide (i < (List.length l : Int))) then (lsAt l i).bind fun x15 => if ((!done) && ((decide (x15.Name = name)) && (!x15.Query))) then ref22_Set_K16 i out true (api_Attr.mk x15.Name value x15.Query) else ref22_Set_K16 i out done x15 else (ref22_Set_A26 name value done out).map .done
noncomputable def ref22_Set (l : (List api_Attr)) (name : Str) (value : Str) : Option (List api_Attr) :=
  loopM (fun s => ref22_Set_L13 l name value s.1 s.2.1 s.2.2) (false, 0, ([] : List api_Attr))

/- attr_Without_1 -/
noncomputable def attr_Without_1 (a : api_Attr) (a1 : Str) : Option Bool :=
  some (decide (a.Name = a1))

/- slices_IndexFunc_api_Attr_api_Attr_f45 -/
noncomputable def slices_IndexFunc_api_Attr_api_Attr_f45_L6 (s_ : (List api_Attr)) (f : Str) (v5 : Int) : Option (Step Int Int) :=
  if (decide (v5 < (List.length s_ : Int))) then (lsAt s_ v5).bind fun x8 => (attr_Without_1 x8 f).bind fun x9 => if x9 then some (.done v5) else some (.cont (IntKind.wrap .i64 (v5 + 1))) else some (.done (-1))
noncomputable def slices_IndexFunc_api_Attr_api_Attr_f45 (s_ : (List api_Attr)) (f : Str) : Option Int :=
  loopM (fun s => slices_IndexFunc_api_Attr_api_Attr_f45_L6 s_ f s) 0

/- slices_DeleteFunc_api_Attr_api_Attr_f45 -/
noncomputable def slices_DeleteFunc_api_Attr_api_Attr_f45_A16 (s_ : (List api_Attr)) (x1 : Int) : Option (List api_Attr) :=
  (cut s_ x1 (List.length s_ : Int)).bind fun x15 => none
noncomputable def slices_DeleteFunc_api_Attr_api_Attr_f45_L9 (s_ : (List api_Attr)) (del : Str) (x1 : Int) (j : Int) : Option (Step Int (List api_Attr)) :=
  if (decide (j < (List.length s_ : Int))) then (lsAt s_ j).bind fun x11 => (attr_Without_1 x11 del).bind fun x12 => if (!x12) then (lsAt s_ x1).bind fun x14 => none else some (.cont (IntKind.wrap .i64 (j + 1))) else (slices_DeleteFunc_api_Attr_api_Attr_f45_A16 s_ x1).map .done
noncomputable def slices_DeleteFunc_api_Attr_api_Attr_f45 (s_ : (List api_Attr)) (del : Str) : Option (List api_Attr) :=
  (slices_IndexFunc_api_Attr_api_Attr_f45 s_ del).bind fun x1 => if (decide (x1 = (-1))) then some s_ else loopM (fun s => slices_DeleteFunc_api_Attr_api_Attr_f45_L9 s_ del x1 s) (IntKind.wrap .i64 (x1 + 1))

/- slices_DeleteFunc_api_Attr_api_Attr_o_f45 -/
noncomputable def slices_DeleteFunc_api_Attr_api_Attr_o_f45_A18 (i : Int) (s__1 : (List api_Attr)) : Option (List api_Attr) :=
  (cut s__1 0 i).bind fun x17 => some x17
noncomputable def slices_DeleteFunc_api_Attr_api_Attr_o_f45_L11 (del : Str) (i : Int) (j : Int) (s__1 : (List api_Attr)) : Option (Step (Int × Int × (List api_Attr)) (List api_Attr)) :=
  if (decide (j < (List.length s__1 : Int))) then (lsAt s__1 j).bind fun x13 => (attr_Without_1 x13 del).bind fun x14 => if (!x14) then (lsAt s__1 i).bind fun x16 => some (.cont ((IntKind.wrap .i64 (i + 1)), (IntKind.wrap .i64 (j + 1)), (List.set s__1 (Int.toNat i) x13))) else some (.cont (i, (IntKind.wrap .i64 (j + 1)), s__1)) else (slices_DeleteFunc_api_Attr_api_Attr_o_f45_A18 i s__1).map .done
noncomputable def slices_DeleteFunc_api_Attr_api_Attr_o_f45 (s_ : (List api_Attr)) (del : Str) : Option (List api_Attr) :=
  (slices_IndexFunc_api_Attr_api_Attr_f45 s_ del).bind fun x1 => if (decide (x1 = (-1))) then some s_ else loopM (fun s => slices_DeleteFunc_api_Attr_api_Attr_o_f45_L11 del s.1 s.2.1 s.2.2) (x1, (IntKind.wrap .i64 (x1 + 1)), s_)

/- attr_Without -/
noncomputable def attr_Without (l : (List api_Attr)) (name : Str) : Option (List api_Attr) :=
  (slices_Clone_api_Attr_api_Attr l).bind fun x1 => (slices_DeleteFunc_api_Attr_api_Attr_o_f45 x1 name).bind fun x2 => some x2

/- ref22_Without -/
noncomputable def ref22_Without_L8 (l : (List api_Attr)) (name : Str) (i : Int) (out : (List api_Attr)) : Option (Step (Int × (List api_Attr)) (List api_Attr)) :=
  if (decide (i < (List.length l : Int))) then (lsAt l i).bind fun x10 => if (!decide (x10.Name = name)) then (lsAt l i).bind fun x12 => (appL 40 out [x12]).bind fun x13 => some (.cont ((IntKind.wrap .i64 (i + 1)), x13)) else some (.cont ((IntKind.wrap .i64 (i + 1)), out)) else some (.done out)
noncomputable def ref22_Without (l : (List api_Attr)) (name : Str) : Option (List api_Attr) :=
  loopM (fun s => ref22_Without_L8 l name s.1 s.2) (0, ([] : List api_Attr))

/- law22_AttrSets -/
noncomputable def law22_AttrSets (l : (List api_Attr)) (name : Str) (value : Str) : Option Bool :=
  (law22_small l).bind fun x1 => if ((!x1) || ((decide (1100 < (List.length name : Int))) || (decide (1100 < (List.length value : Int))))) then (law22_awake).bind fun x6 => some x6 else (attr_Find l name).bind fun x7 => (ref22_Find l name).bind fun x8 => (if (decide (x7.1 = x8.1)) then if (decide (x7.2 = x8.2)) then (attr_Set l name value).bind fun x11 => (ref22_Set l name value).bind fun x12 => (ref22_Same x11 x12).bind fun x13 => if x13 then (attr_Without l name).bind fun x15 => (ref22_Without l name).bind fun x16 => (ref22_Same x15 x16).bind fun x17 => if x17 then (law22_awake).bind fun x19 => some x19 else some false else some false else some false else some false).bind fun t20 => some t20

/- law22_AttrFinds -/
noncomputable def law22_AttrFinds (l : (List api_Attr)) (name : (Str × Str)) (value : Str) : Option Bool :=
  (law22_small l).bind fun x1 => if ((!x1) || ((decide (1100 < (List.length name.1 : Int))) || ((decide (1100 < (List.length name.2 : Int))) || (decide (1100 < (List.length value : Int)))))) then (law22_awake).bind fun x7 => some x7 else (attr_Set l name.1 value).bind fun x8 => (attr_Without l name.1).bind fun x9 => (attr_Find x8 name.1).bind fun x10 => (attr_Find x9 name.1).bind fun x11 => if ((!x10.2) || ((!decide (x10.1 = value)) || x11.2)) then some false else if (decide (name.1 = name.2)) then (law22_awake).bind fun x17 => some x17 else (attr_Find l name.2).bind fun x18 => (attr_Find x8 name.2).bind fun x19 => (attr_Find x9 name.2).bind fun x20 => (if (decide (x18.1 = x19.1)) then if (decide (x18.2 = x19.2)) then if (decide (x18.1 = x20.1)) then if (decide (x18.2 = x20.2)) then (law22_awake).bind fun x25 => some x25 else some false else some false else some false else some false).bind fun t26 => some t26

/- strings_Count -/
noncomputable def strings_Count (a0 : Str) (a1 : Str) : Option Int := xCount a0 a1

/- strings_Replace -/
noncomputable def strings_Replace_K4 (p5 : Int) : Option Str :=
  none
noncomputable def strings_Replace (s_ : Str) (old : Str) (new : Str) (n : Int) : Option Str :=
  if ((decide (old = new)) || (decide (n = 0))) then some s_ else (strings_Count s_ old).bind fun x6 => if (decide (x6 = 0)) then some s_ else if ((decide (n < 0)) || (decide (x6 < n))) then strings_Replace_K4 x6 else strings_Replace_K4 n

/- unicode_utf8_decodeRuneInStringSlow -/
noncomputable def unicode_utf8_decodeRuneInStringSlow (s_ : Str) : Option (Int × Int) :=
  if (decide ((List.length s_ : Int) < 1)) then some (65533, 0) else (strAt s_ 0).bind fun c2 => none

/- unicode_utf8_DecodeRuneInString -/
noncomputable def unicode_utf8_DecodeRuneInString (s_ : Str) : Option (Int × Int) :=
  (if (!decide (s_ = [])) then (strAt s_ 0).bind fun c2 => some (decide ((c2.toNat : Int) < 128)) else some false).bind fun t3 => if t3 then (strAt s_ 0).bind fun c5 => some ((IntKind.wrap .i32 (c5.toNat : Int)), 1) else (unicode_utf8_decodeRuneInStringSlow s_).bind fun x6 => some (x6.1, x6.2)

/- stringslite_Index -/
noncomputable def stringslite_Index (a0 : Str) (a1 : Str) : Option Int := xIndex a0 a1

/- unicode_utf8_RuneCountInString -/
noncomputable def unicode_utf8_RuneCountInString (s_ : Str) : Option Int :=
  none

/- bytealg_Cutover -/
noncomputable def bytealg_Cutover (n : Int) : Option Int :=
  some (IntKind.wrap .i64 (Int.tdiv (IntKind.wrap .i64 (n + 16)) 8))

/- bytealg_hashStr_string -/
noncomputable def bytealg_hashStr_string_K18 (sq : Int) (i_1 : Int) (p19 : Int) : Option (Step (Int × Int × Int) (Int × Int)) :=
  (shrI .i64 i_1 1).bind fun x20 => some (.cont (p19, (IntKind.wrap .u32 (sq * sq)), x20))
noncomputable def bytealg_hashStr_string_L16 (hash : Int) (pow : Int) (sq : Int) (i_1 : Int) : Option (Step (Int × Int × Int) (Int × Int)) :=
  if (decide (0 < i_1)) then if (!decide ((IntKind.wrap .i64 ((BitVec.ofInt (IntKind.bits .i64) i_1 &&& (BitVec.ofInt (IntKind.bits .i64) 1)).toNat : Nat)) = 0)) then bytealg_hashStr_string_K18 sq i_1 (IntKind.wrap .u32 (pow * sq)) else bytealg_hashStr_string_K18 sq i_1 pow else some (.done (hash, pow))
noncomputable def bytealg_hashStr_string_L5 (sep : Str) (hash : Int) (i : Int) : Option (Step (Int × Int) (Int × Int)) :=
  if (decide (i < (List.length sep : Int))) then (strAt sep i).bind fun c7 => some (.cont ((IntKind.wrap .u32 ((IntKind.wrap .u32 (hash * 16777619)) + (IntKind.wrap .u32 (c7.toNat : Int)))), (IntKind.wrap .i64 (i + 1)))) else (loopM (fun s => bytealg_hashStr_string_L16 hash s.1 s.2.1 s.2.2) (1, 16777619, (List.length sep : Int))).map .done
noncomputable def bytealg_hashStr_string (sep : Str) : Option (Int × Int) :=
  loopM (fun s => bytealg_hashStr_string_L5 sep s.1 s.2) (0, 0)

/- bytealg_IndexRabinKarp_string -/
noncomputable def bytealg_IndexRabinKarp_string_L22 (s_ : Str) (sep : Str) (x1 : (Int × Int)) (h__1 : Int) (i_1 : Int) : Option (Step (Int × Int) Int) :=
  if (decide (i_1 < (List.length s_ : Int))) then (strAt s_ i_1).bind fun c24 => (strAt s_ (IntKind.wrap .i64 (i_1 - (List.length sep : Int)))).bind fun c25 => (if (decide ((IntKind.wrap .u32 ((IntKind.wrap .u32 ((IntKind.wrap .u32 (h__1 * 16777619)) + (IntKind.wrap .u32 (c24.toNat : Int)))) - (IntKind.wrap .u32 (x1.2 * (IntKind.wrap .u32 (c25.toNat : Int)))))) = x1.1)) then (cut s_ (IntKind.wrap .i64 ((IntKind.wrap .i64 (i_1 + 1)) - (List.length sep : Int))) (IntKind.wrap .i64 (i_1 + 1))).bind fun x27 => some (decide (x27 = sep)) else some false).bind fun t28 => if t28 then some (.done (IntKind.wrap .i64 ((IntKind.wrap .i64 (i_1 + 1)) - (List.length sep : Int)))) else some (.cont ((IntKind.wrap .u32 ((IntKind.wrap .u32 ((IntKind.wrap .u32 (h__1 * 16777619)) + (IntKind.wrap .u32 (c24.toNat : Int)))) - (IntKind.wrap .u32 (x1.2 * (IntKind.wrap .u32 (c25.toNat : Int)))))), (IntKind.wrap .i64 (i_1 + 1)))) else some (.done (-1))
noncomputable def bytealg_IndexRabinKarp_string_A30 (s_ : Str) (sep : Str) (x1 : (Int × Int)) (h_ : Int) : Option Int :=
  (if (decide (h_ = x1.1)) then (cut s_ 0 (List.length sep : Int)).bind fun x10 => some (decide (x10 = sep)) else some false).bind fun t11 => if t11 then some 0 else loopM (fun s => bytealg_IndexRabinKarp_string_L22 s_ sep x1 s.1 s.2) (h_, (List.length sep : Int))
noncomputable def bytealg_IndexRabinKarp_string_L6 (s_ : Str) (sep : Str) (x1 : (Int × Int)) (h_ : Int) (i : Int) : Option (Step (Int × Int) Int) :=
  if (decide (i < (List.length sep : Int))) then (strAt s_ i).bind fun c8 => some (.cont ((IntKind.wrap .u32 ((IntKind.wrap .u32 (h_ * 16777619)) + (IntKind.wrap .u32 (c8.toNat : Int)))), (IntKind.wrap .i64 (i + 1)))) else (bytealg_IndexRabinKarp_string_A30 s_ sep x1 h_).map .done
noncomputable def bytealg_IndexRabinKarp_string (s_ : Str) (sep : Str) : Option Int :=
  (bytealg_hashStr_string sep).bind fun x1 => loopM (fun s => bytealg_IndexRabinKarp_string_L6 s_ sep x1 s.1 s.2) (0, 0)

end Go.Proofs.YtjlbepebaegmeaaDoor
