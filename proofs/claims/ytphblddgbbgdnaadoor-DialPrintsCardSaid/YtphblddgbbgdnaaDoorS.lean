/- What the functions compute, in plain Lean, printed by a program of the claim's author. -/
import Derived.Test.YtphblddgbbgdnaaDoorVmX
import Derived.Test.YtphblddgbbgdnaaDoorVmB
namespace Go.Proofs.YtphblddgbbgdnaaDoor
open Go.Vm
set_option autoImplicit false
set_option linter.unusedVariables false
set_option linter.unusedSimpArgs false
set_option maxRecDepth 100000

abbrev Str := List UInt8
structure api_Addr where
  Net : Str
  Host : Str
  Service : Str
  deriving Inhabited
def enc_api_Addr (x : api_Addr) : PV := .agg [.str x.Net, .str x.Host, .str x.Service]
structure api_Attr where
  Name : Str
  Value : Str
  Query : Bool
  deriving Inhabited
def enc_api_Attr (x : api_Attr) : PV := .agg [.str x.Name, .str x.Value, .bool x.Query]
structure api_Entry where
  Attrs : (List api_Attr)
  deriving Inhabited
def enc_api_Entry (x : api_Entry) : PV := .agg [.sl (some 3) (List.map enc_api_Attr x.Attrs)]
def encT_List_api_Attr (x : (List api_Attr)) : PV := .sl (some 3) (List.map enc_api_Attr x)
/- law27_light -/
/- stringslite_HasSuffix -/
noncomputable def stringslite_HasSuffix (s_ : Str) (suffix : Str) : Option Bool :=
  (if (decide ((List.length suffix : Int) ≤ (List.length s_ : Int))) then (cut s_ (IntKind.wrap .i64 ((List.length s_ : Int) - (List.length suffix : Int))) (List.length s_ : Int)).bind fun x2 => some (decide (x2 = suffix)) else some false).bind fun t3 => some t3

/- stringslite_TrimSuffix -/
noncomputable def stringslite_TrimSuffix (s_ : Str) (suffix : Str) : Option Str :=
  (stringslite_HasSuffix s_ suffix).bind fun x1 => if x1 then (cut s_ 0 (IntKind.wrap .i64 ((List.length s_ : Int) - (List.length suffix : Int)))).bind fun x3 => some x3 else some s_

/- strings_TrimSuffix -/
noncomputable def strings_TrimSuffix (s_ : Str) (suffix : Str) : Option Str :=
  (stringslite_TrimSuffix s_ suffix).bind fun x1 => some x1

/- unicode_utf8_RuneCountInString -/
noncomputable def unicode_utf8_RuneCountInString (s_ : Str) : Option Int :=
  none

/- unicode_utf8_decodeRuneInStringSlow -/
noncomputable def unicode_utf8_decodeRuneInStringSlow (s_ : Str) : Option (Int × Int) :=
  if (decide ((List.length s_ : Int) < 1)) then some (65533, 0) else (strAt s_ 0).bind fun c2 => none

/- unicode_utf8_DecodeRuneInString -/
noncomputable def unicode_utf8_DecodeRuneInString (s_ : Str) : Option (Int × Int) :=
  (if (!decide (s_ = [])) then (strAt s_ 0).bind fun c2 => some (decide ((c2.toNat : Int) < 128)) else some false).bind fun t3 => if t3 then (strAt s_ 0).bind fun c5 => some ((IntKind.wrap .i32 (c5.toNat : Int)), 1) else (unicode_utf8_decodeRuneInStringSlow s_).bind fun x6 => some (x6.1, x6.2)

/- strings_explode -/
noncomputable def strings_explode_A21 (p3 : Int) (s__1 : Str) (a : (List Str)) : Option (List Str) :=
  if (decide (0 < p3)) then (lsAt a (IntKind.wrap .i64 (p3 - 1))).bind fun x20 => some (List.set a (Int.toNat (IntKind.wrap .i64 (p3 - 1))) s__1) else some a
noncomputable def strings_explode_L13 (p3 : Int) (s__1 : Str) (i : Int) (a : (List Str)) : Option (Step (Str × Int × (List Str)) (List Str)) :=
  if (decide (i < (IntKind.wrap .i64 (p3 - 1)))) then (unicode_utf8_DecodeRuneInString s__1).bind fun x15 => (cut s__1 0 x15.2).bind fun x16 => (lsAt a i).bind fun x17 => (cut s__1 x15.2 (List.length s__1 : Int)).bind fun x18 => some (.cont (x18, (IntKind.wrap .i64 (i + 1)), (List.set a (Int.toNat i) x16))) else (strings_explode_A21 p3 s__1 a).map .done
noncomputable def strings_explode_K2 (s_ : Str) (p3 : Int) : Option (List Str) :=
  (mkC 16 ([] : Str) p3 p3).bind fun x4 => loopM (fun s => strings_explode_L13 p3 s.1 s.2.1 s.2.2) (s_, 0, x4)
noncomputable def strings_explode (s_ : Str) (n : Int) : Option (List Str) :=
  (unicode_utf8_RuneCountInString s_).bind fun x1 => if ((decide (n < 0)) || (decide (x1 < n))) then strings_explode_K2 s_ x1 else strings_explode_K2 s_ n

/- strings_Count -/
noncomputable def strings_Count (a0 : Str) (a1 : Str) : Option Int := xCount a0 a1

/- strings_Index -/
noncomputable def strings_Index (a0 : Str) (a1 : Str) : Option Int := xIndex a0 a1

/- strings_genSplit -/
noncomputable def strings_genSplit_K7 (p8 : Str) (p9 : Int) (p10 : (List Str)) : Option (List Str) :=
  (lsAt p10 p9).bind fun x11 => (cut (List.set p10 (Int.toNat p9) p8) 0 (IntKind.wrap .i64 (p9 + 1))).bind fun x12 => some x12
noncomputable def strings_genSplit_L22 (s_ : Str) (sep : Str) (sepSave : Int) (p5 : Int) (s__2 : Str) (i_1 : Int) (a_1 : (List Str)) : Option (Step (Str × Int × (List Str)) (List Str)) :=
  if (decide (i_1 < (IntKind.wrap .i64 ((min p5 (IntKind.wrap .i64 ((List.length s_ : Int) + 1))) - 1)))) then (strings_Index s__2 sep).bind fun x24 => if (decide (x24 < 0)) then (strings_genSplit_K7 s__2 i_1 a_1).map .done else (cut s__2 0 (IntKind.wrap .i64 (x24 + sepSave))).bind fun x26 => (lsAt a_1 i_1).bind fun x27 => (cut s__2 (IntKind.wrap .i64 (x24 + (List.length sep : Int))) (List.length s__2 : Int)).bind fun x28 => some (.cont (x28, (IntKind.wrap .i64 (i_1 + 1)), (List.set a_1 (Int.toNat i_1) x26))) else (strings_genSplit_K7 s__2 i_1 a_1).map .done
noncomputable def strings_genSplit_K4 (s_ : Str) (sep : Str) (sepSave : Int) (p5 : Int) : Option (List Str) :=
  (mkC 16 ([] : Str) (min p5 (IntKind.wrap .i64 ((List.length s_ : Int) + 1))) (min p5 (IntKind.wrap .i64 ((List.length s_ : Int) + 1)))).bind fun x6 => loopM (fun s => strings_genSplit_L22 s_ sep sepSave p5 s.1 s.2.1 s.2.2) (s_, 0, x6)
noncomputable def strings_genSplit (s_ : Str) (sep : Str) (sepSave : Int) (n : Int) : Option (List Str) :=
  if (decide (n = 0)) then some ([] : (List Str)) else if (decide (sep = [])) then (strings_explode s_ n).bind fun x3 => some x3 else if (decide (n < 0)) then (strings_Count s_ sep).bind fun x30 => strings_genSplit_K4 s_ sep sepSave (IntKind.wrap .i64 (x30 + 1)) else strings_genSplit_K4 s_ sep sepSave n

/- strings_Split -/
noncomputable def strings_Split (s_ : Str) (sep : Str) : Option (List Str) :=
  (strings_genSplit s_ sep 0 (-1)).bind fun x1 => some x1

/- dial_lines -/
noncomputable def dial_lines (s_ : Str) : Option (List Str) :=
  if (decide (s_ = [])) then some ([] : (List Str)) else (strings_TrimSuffix s_ [10]).bind fun x2 => (strings_Split x2 [10]).bind fun x3 => some x3

/- dial_ignored -/
noncomputable def dial_ignored_L9 (line : Str) (v8 : Int) : Option (Step Int Bool) :=
  if (decide (v8 < (List.length line : Int))) then (strAt line v8).bind fun c11 => (if (!decide ((c11.toNat : Int) = 32)) then (strAt line v8).bind fun c13 => some (!decide ((c13.toNat : Int) = 9)) else some false).bind fun t14 => if t14 then (strAt line 0).bind fun c16 => some (.done (decide ((c16.toNat : Int) = 35))) else some (.cont (IntKind.wrap .i64 (v8 + 1))) else some (.done true)
noncomputable def dial_ignored (line : Str) : Option Bool :=
  loopM (fun s => dial_ignored_L9 line s) 0

/- attr_blank -/
noncomputable def attr_blank (c : Int) : Option Bool :=
  some ((decide (c = 32)) || (decide (c = 9)))

/- stringslite_IndexByte -/
noncomputable def stringslite_IndexByte (a0 : Str) (a1 : Int) : Option Int := xIndexByte a0 a1

/- strings_IndexByte -/
noncomputable def strings_IndexByte (s_ : Str) (c : Int) : Option Int :=
  (stringslite_IndexByte s_ c).bind fun x1 => some x1

/- attr_until -/
noncomputable def attr_until_L6 (s_ : Str) (stops : Str) (v5 : Int) : Option (Step Int Int) :=
  if (decide (v5 < (List.length s_ : Int))) then (strAt s_ v5).bind fun c8 => (strings_IndexByte stops (c8.toNat : Int)).bind fun x9 => if (decide (0 ≤ x9)) then some (.done v5) else some (.cont (IntKind.wrap .i64 (v5 + 1))) else some (.done (List.length s_ : Int))
noncomputable def attr_until (s_ : Str) (stops : Str) : Option Int :=
  loopM (fun s => attr_until_L6 s_ stops s) 0

/- stringslite_HasPrefix -/
noncomputable def stringslite_HasPrefix (s_ : Str) (prefix_ : Str) : Option Bool :=
  (if (decide ((List.length prefix_ : Int) ≤ (List.length s_ : Int))) then (cut s_ 0 (List.length prefix_ : Int)).bind fun x2 => some (decide (x2 = prefix_)) else some false).bind fun t3 => some t3

/- strings_HasPrefix -/
noncomputable def strings_HasPrefix (s_ : Str) (prefix_ : Str) : Option Bool :=
  (stringslite_HasPrefix s_ prefix_).bind fun x1 => some x1

/- attr_quoted -/
noncomputable def attr_quoted_L13 (s_ : Str) (i : Int) (v12 : Str) : Option (Step (Int × Str) (Str × Int × Bool)) :=
  if (decide (i < (List.length s_ : Int))) then (strAt s_ i).bind fun c15 => if (!decide ((c15.toNat : Int) = 39)) then (strAt s_ i).bind fun c17 => (bAdd v12 [c17]).bind fun x18 => some (.cont ((IntKind.wrap .i64 (i + 1)), x18)) else (if (decide ((IntKind.wrap .i64 (i + 1)) = (List.length s_ : Int))) then some true else (strAt s_ (IntKind.wrap .i64 (i + 1))).bind fun c20 => some (!decide ((c20.toNat : Int) = 39))).bind fun t21 => if t21 then some (.done (v12, (IntKind.wrap .i64 (i + 1)), true)) else (bAdd v12 [(39 : UInt8)]).bind fun x23 => some (.cont ((IntKind.wrap .i64 ((IntKind.wrap .i64 (i + 1)) + 1)), x23)) else some (.done ([], 0, false))
noncomputable def attr_quoted (s_ : Str) : Option (Str × Int × Bool) :=
  loopM (fun s => attr_quoted_L13 s_ s.1 s.2) (0, ([] : Str))

/- strings_Contains -/
noncomputable def strings_Contains (s_ : Str) (substr : Str) : Option Bool :=
  (strings_Index s_ substr).bind fun x1 => some (decide (0 ≤ x1))

/- attr_one -/
noncomputable def attr_one_K4 (s_ : Str) (x2 : Str) (p5 : Int) (p6 : Str) (p7 : Bool) : Option (api_Attr × Int × Int) :=
  (if (decide (p5 < (List.length s_ : Int))) then (strAt s_ p5).bind fun c9 => (attr_blank (c9.toNat : Int)).bind fun x10 => some (!x10) else some false).bind fun t11 => if t11 then some ((api_Attr.mk [] [] false), 0, 2) else some ((api_Attr.mk x2 p6 p7), p5, 0)
noncomputable def attr_one (s_ : Str) : Option (api_Attr × Int × Int) :=
  (attr_until s_ [32, 9, 61, 63, 39]).bind fun x1 => (cut s_ 0 x1).bind fun x2 => (cut s_ x1 (List.length s_ : Int)).bind fun x3 => (strings_HasPrefix x3 [63]).bind fun x13 => if x13 then attr_one_K4 s_ x2 (IntKind.wrap .i64 (x1 + 1)) [] true else (strings_HasPrefix x3 [61, 39]).bind fun x15 => if x15 then (cut x3 2 (List.length x3 : Int)).bind fun x17 => (attr_quoted x17).bind fun x18 => if (!x18.2.2) then some ((api_Attr.mk [] [] false), 0, 48) else attr_one_K4 s_ x2 (IntKind.wrap .i64 (x1 + (IntKind.wrap .i64 (2 + x18.2.1)))) x18.1 false else (strings_HasPrefix x3 [61]).bind fun x20 => if x20 then (attr_until x3 [32, 9]).bind fun x22 => (cut x3 1 x22).bind fun x23 => (strings_Contains x23 [39]).bind fun x24 => if x24 then some ((api_Attr.mk [] [] false), 0, 2) else attr_one_K4 s_ x2 (IntKind.wrap .i64 (x1 + x22)) x23 false else some ((api_Attr.mk [] [] false), 0, 2)

/- stringslite_TrimPrefix -/
noncomputable def stringslite_TrimPrefix (s_ : Str) (prefix_ : Str) : Option Str :=
  (stringslite_HasPrefix s_ prefix_).bind fun x1 => if x1 then (cut s_ (List.length prefix_ : Int) (List.length s_ : Int)).bind fun x3 => some x3 else some s_

/- strings_TrimPrefix -/
noncomputable def strings_TrimPrefix (s_ : Str) (prefix_ : Str) : Option Str :=
  (stringslite_TrimPrefix s_ prefix_).bind fun x1 => some x1

/- attr_isName -/
noncomputable def attr_isName_L24 (x1 : Str) (v23 : Int) : Option (Step Int Bool) :=
  if (decide (v23 < (List.length x1 : Int))) then (strAt x1 v23).bind fun c26 => if (if (decide ((c26.toNat : Int) < 97)) then (if (decide ((c26.toNat : Int) < 48)) then ((!decide ((c26.toNat : Int) = 45)) && (!decide ((c26.toNat : Int) = 95))) else ((decide (57 < (c26.toNat : Int))) && ((!decide ((c26.toNat : Int) = 45)) && (!decide ((c26.toNat : Int) = 95))))) else ((decide (122 < (c26.toNat : Int))) && (if (decide ((c26.toNat : Int) < 48)) then ((!decide ((c26.toNat : Int) = 45)) && (!decide ((c26.toNat : Int) = 95))) else ((decide (57 < (c26.toNat : Int))) && ((!decide ((c26.toNat : Int) = 45)) && (!decide ((c26.toNat : Int) = 95))))))) then some (.done false) else some (.cont (IntKind.wrap .i64 (v23 + 1))) else some (.done true)
noncomputable def attr_isName (s_ : Str) : Option Bool :=
  (strings_TrimPrefix s_ [33]).bind fun x1 => (if (decide (x1 = [])) then some true else if (decide (32 < (List.length x1 : Int))) then some true else (strAt x1 0).bind fun c4 => if (decide ((c4.toNat : Int) < 97)) then some true else (strAt x1 0).bind fun c6 => some (decide (122 < (c6.toNat : Int)))).bind fun t7 => if t7 then some false else loopM (fun s => attr_isName_L24 x1 s) 0

/- attr_check_1 -/
noncomputable def attr_check_1 (b : api_Attr) (a1 : api_Attr) : Option Bool :=
  some (decide (b.Name = a1.Name))

/- slices_IndexFunc_api_Attr_api_Attr_f119 -/
noncomputable def slices_IndexFunc_api_Attr_api_Attr_f119_L6 (s_ : (List api_Attr)) (f : api_Attr) (v5 : Int) : Option (Step Int Int) :=
  if (decide (v5 < (List.length s_ : Int))) then (lsAt s_ v5).bind fun x8 => (attr_check_1 x8 f).bind fun x9 => if x9 then some (.done v5) else some (.cont (IntKind.wrap .i64 (v5 + 1))) else some (.done (-1))
noncomputable def slices_IndexFunc_api_Attr_api_Attr_f119 (s_ : (List api_Attr)) (f : api_Attr) : Option Int :=
  loopM (fun s => slices_IndexFunc_api_Attr_api_Attr_f119_L6 s_ f s) 0

/- slices_ContainsFunc_api_Attr_api_Attr_f119 -/
noncomputable def slices_ContainsFunc_api_Attr_api_Attr_f119 (s_ : (List api_Attr)) (f : api_Attr) : Option Bool :=
  (slices_IndexFunc_api_Attr_api_Attr_f119 s_ f).bind fun x1 => some (decide (0 ≤ x1))

/- attr_check -/
noncomputable def attr_check (before : (List api_Attr)) (a : api_Attr) : Option Int :=
  if (decide (32 ≤ (List.length before : Int))) then some 22 else (attr_isName a.Name).bind fun x2 => if (!x2) then some 6 else if (a.Query && (!decide (a.Value = []))) then some 2 else (attr_until a.Value [0, 10, 13]).bind fun x7 => if (decide (x7 < (List.length a.Value : Int))) then some 2 else if (decide (1024 < (List.length a.Value : Int))) then some 4 else (slices_ContainsFunc_api_Attr_api_Attr_f119 before a).bind fun x10 => if x10 then some 7 else some 0

/- attr_Parse -/
noncomputable def attr_Parse_K22 (i : Int) (out : (List api_Attr)) (x21 : (api_Attr × Int × Int)) (p23 : Int) : Option (Step (Int × (List api_Attr)) ((List api_Attr) × Int × Int)) :=
  if (!decide (p23 = 0)) then some (.done (([] : (List api_Attr)), i, p23)) else (appL 40 out [x21.1]).bind fun x25 => some (.cont ((IntKind.wrap .i64 (i + x21.2.1)), x25))
noncomputable def attr_Parse_L15 (s_ : Str) (i : Int) (out : (List api_Attr)) : Option (Step (Int × (List api_Attr)) ((List api_Attr) × Int × Int)) :=
  if (decide (i < (List.length s_ : Int))) then (strAt s_ i).bind fun c17 => (attr_blank (c17.toNat : Int)).bind fun x18 => if x18 then some (.cont ((IntKind.wrap .i64 (i + 1)), out)) else (cut s_ i (List.length s_ : Int)).bind fun x20 => (attr_one x20).bind fun x21 => if (decide (x21.2.2 = 0)) then (attr_check out x21.1).bind fun x27 => attr_Parse_K22 i out x21 x27 else attr_Parse_K22 i out x21 x21.2.2 else some (.done (out, 0, 0))
noncomputable def attr_Parse (s_ : Str) : Option ((List api_Attr) × Int × Int) :=
  loopM (fun s => attr_Parse_L15 s_ s.1 s.2) (0, ([] : List api_Attr))

/- dial_asks_1 -/
noncomputable def dial_asks_1 (a : api_Attr) : Option Bool :=
  some a.Query

/- slices_IndexFunc_api_Attr_api_Attr_f81 -/
noncomputable def slices_IndexFunc_api_Attr_api_Attr_f81_L6 (s_ : (List api_Attr)) (v5 : Int) : Option (Step Int Int) :=
  if (decide (v5 < (List.length s_ : Int))) then (lsAt s_ v5).bind fun x8 => (dial_asks_1 x8).bind fun x9 => if x9 then some (.done v5) else some (.cont (IntKind.wrap .i64 (v5 + 1))) else some (.done (-1))
noncomputable def slices_IndexFunc_api_Attr_api_Attr_f81 (s_ : (List api_Attr)) : Option Int :=
  loopM (fun s => slices_IndexFunc_api_Attr_api_Attr_f81_L6 s_ s) 0

/- slices_ContainsFunc_api_Attr_api_Attr_f81 -/
noncomputable def slices_ContainsFunc_api_Attr_api_Attr_f81 (s_ : (List api_Attr)) : Option Bool :=
  (slices_IndexFunc_api_Attr_api_Attr_f81 s_).bind fun x1 => some (decide (0 ≤ x1))

/- dial_asks -/
noncomputable def dial_asks (l : (List api_Attr)) : Option Bool :=
  (slices_ContainsFunc_api_Attr_api_Attr_f81 l).bind fun x1 => some x1

/- slices_Grow_api_Attr_api_Attr -/
/- slices_Grow_api_Attr_api_Attr_n -/
noncomputable def slices_Grow_api_Attr_api_Attr_n (n : Int) : Option (List api_Attr) :=
  if (decide (n < 0)) then none else if (decide (0 < (IntKind.wrap .i64 (n - 0)))) then (zerosC 40 ((api_Attr.mk [] [] false) : api_Attr) (IntKind.wrap .i64 (n - 0))).bind fun x3 => (cut x3 0 0).bind fun x4 => some x4 else some ([] : (List api_Attr))

/- slices_Concat_api_Attr_api_Attr -/
noncomputable def slices_Concat_api_Attr_api_Attr_L16 (slices : (List (List api_Attr))) (v14 : Int) (newslice : (List api_Attr)) : Option (Step (Int × (List api_Attr)) (List api_Attr)) :=
  if (decide (v14 < (List.length slices : Int))) then (lsAt slices v14).bind fun x18 => (appL 40 newslice x18).bind fun x19 => some (.cont ((IntKind.wrap .i64 (v14 + 1)), x19)) else some (.done newslice)
noncomputable def slices_Concat_api_Attr_api_Attr_A20 (slices : (List (List api_Attr))) (size : Int) : Option (List api_Attr) :=
  (slices_Grow_api_Attr_api_Attr_n size).bind fun x10 => loopM (fun s => slices_Concat_api_Attr_api_Attr_L16 slices s.1 s.2) (0, x10)
noncomputable def slices_Concat_api_Attr_api_Attr_L6 (slices : (List (List api_Attr))) (size : Int) (v5 : Int) : Option (Step (Int × Int) (List api_Attr)) :=
  if (decide (v5 < (List.length slices : Int))) then (lsAt slices v5).bind fun x8 => if (decide ((IntKind.wrap .i64 (size + (List.length x8 : Int))) < 0)) then none else some (.cont ((IntKind.wrap .i64 (size + (List.length x8 : Int))), (IntKind.wrap .i64 (v5 + 1)))) else (slices_Concat_api_Attr_api_Attr_A20 slices size).map .done
noncomputable def slices_Concat_api_Attr_api_Attr (slices : (List (List api_Attr))) : Option (List api_Attr) :=
  loopM (fun s => slices_Concat_api_Attr_api_Attr_L6 slices s.1 s.2) (0, 0)

/- attr_Check -/
noncomputable def attr_Check_L7 (l : (List api_Attr)) (v6 : Int) : Option (Step Int Int) :=
  if (decide (v6 < (List.length l : Int))) then (lsAt l v6).bind fun x9 => (cut l 0 v6).bind fun x10 => (attr_check x10 x9).bind fun x11 => if (!decide (x11 = 0)) then some (.done x11) else some (.cont (IntKind.wrap .i64 (v6 + 1))) else some (.done 0)
noncomputable def attr_Check (l : (List api_Attr)) : Option Int :=
  loopM (fun s => attr_Check_L7 l s) 0

/- dial_joined -/
noncomputable def dial_joined (before : (List api_Attr)) (line : Str) : Option ((List api_Attr) × Int) :=
  (attr_Parse line).bind fun x1 => if (!decide (x1.2.2 = 0)) then some (([] : (List api_Attr)), x1.2.2) else (dial_asks x1.1).bind fun x3 => if x3 then some (([] : (List api_Attr)), 2) else (slices_Concat_api_Attr_api_Attr [before, x1.1]).bind fun x5 => (attr_Check x5).bind fun x6 => some (x5, x6)

/- dial_Db -/
noncomputable def dial_Db_K34 (v23 : Int) (out : (List api_Entry)) (x27 : Str) (t33 : Bool) (p35 : (List api_Attr)) : Option (Step (Int × (List api_Entry)) ((List api_Entry) × Int × Int)) :=
  (dial_joined p35 x27).bind fun x36 => if (!decide (x36.2 = 0)) then some (.done (([] : (List api_Entry)), v23, x36.2)) else if t33 then (lsAt out (IntKind.wrap .i64 ((List.length out : Int) - 1))).bind fun x39 => some (.cont ((IntKind.wrap .i64 (v23 + 1)), (List.set out (Int.toNat (IntKind.wrap .i64 ((List.length out : Int) - 1))) (api_Entry.mk x36.1)))) else (appL 24 out [(api_Entry.mk x36.1)]).bind fun x40 => some (.cont ((IntKind.wrap .i64 (v23 + 1)), x40))
noncomputable def dial_Db_L25 (x1 : (List Str)) (v23 : Int) (out : (List api_Entry)) : Option (Step (Int × (List api_Entry)) ((List api_Entry) × Int × Int)) :=
  if (decide (v23 < (List.length x1 : Int))) then (lsAt x1 v23).bind fun x27 => (dial_ignored x27).bind fun x28 => if x28 then some (.cont ((IntKind.wrap .i64 (v23 + 1)), out)) else (strAt x27 0).bind fun c30 => (if (decide ((c30.toNat : Int) = 32)) then some true else (strAt x27 0).bind fun c32 => some (decide ((c32.toNat : Int) = 9))).bind fun t33 => if (t33 && (decide ((IntKind.wrap .i64 ((List.length out : Int) - 1)) < 0))) then some (.done (([] : (List api_Entry)), v23, 2)) else if t33 then (lsAt out (IntKind.wrap .i64 ((List.length out : Int) - 1))).bind fun x45 => dial_Db_K34 v23 out x27 t33 x45.Attrs else if (decide (256 ≤ (List.length out : Int))) then some (.done (([] : (List api_Entry)), v23, 22)) else dial_Db_K34 v23 out x27 t33 ([] : List api_Attr) else some (.done (out, 0, 0))
noncomputable def dial_Db (s_ : Str) : Option ((List api_Entry) × Int × Int) :=
  (dial_lines s_).bind fun x1 => loopM (fun s => dial_Db_L25 x1 s.1 s.2) (0, ([] : List api_Entry))

/- dial_made -/
noncomputable def dial_made_L19 (s_ : Str) (more : Str) (v18 : Int) : Option (Step Int Bool) :=
  if (decide (v18 < (List.length s_ : Int))) then (strAt s_ v18).bind fun c21 => (if (decide ((c21.toNat : Int) < 97)) then if (decide ((c21.toNat : Int) < 48)) then (strings_IndexByte more (c21.toNat : Int)).bind fun x24 => some (decide (x24 < 0)) else if (decide (57 < (c21.toNat : Int))) then (strings_IndexByte more (c21.toNat : Int)).bind fun x26 => some (decide (x26 < 0)) else some false else if (decide (122 < (c21.toNat : Int))) then if (decide ((c21.toNat : Int) < 48)) then (strings_IndexByte more (c21.toNat : Int)).bind fun x29 => some (decide (x29 < 0)) else if (decide (57 < (c21.toNat : Int))) then (strings_IndexByte more (c21.toNat : Int)).bind fun x31 => some (decide (x31 < 0)) else some false else some false).bind fun t32 => if t32 then some (.done false) else some (.cont (IntKind.wrap .i64 (v18 + 1))) else some (.done true)
noncomputable def dial_made (s_ : Str) (most : Int) (more : Str) : Option Bool :=
  if ((decide (s_ = [])) || (decide (most < (List.length s_ : Int)))) then some false else loopM (fun s => dial_made_L19 s_ more s) 0

/- dial_isNet -/
noncomputable def dial_isNet (s_ : Str) : Option Bool :=
  (dial_made s_ 32 [45, 95]).bind fun x1 => (if x1 then (strAt s_ 0).bind fun c3 => if (decide (97 ≤ (c3.toNat : Int))) then (strAt s_ 0).bind fun c5 => some (decide ((c5.toNat : Int) ≤ 122)) else some false else some false).bind fun t6 => some t6

/- dial_isHost -/
noncomputable def dial_isHost (s_ : Str) : Option Bool :=
  (dial_made s_ 64 [45, 95, 46]).bind fun x1 => some x1

/- dial_valid -/
noncomputable def dial_valid (a : api_Addr) : Option Bool :=
  (if (decide (a.Service = [])) then some true else (dial_made a.Service 32 [45, 95]).bind fun x2 => some x2).bind fun t3 => (dial_isNet a.Net).bind fun x4 => (if x4 then if (decide (a.Host = [42])) then some t3 else (dial_isHost a.Host).bind fun x7 => if x7 then some t3 else some false else some false).bind fun t9 => some t9

/- attr_index_1 -/
noncomputable def attr_index_1 (a : api_Attr) (a1 : Str) : Option Bool :=
  some ((!a.Query) && (decide (a.Name = a1)))

/- slices_IndexFunc_api_Attr_api_Attr_f100 -/
noncomputable def slices_IndexFunc_api_Attr_api_Attr_f100_L6 (s_ : (List api_Attr)) (f : Str) (v5 : Int) : Option (Step Int Int) :=
  if (decide (v5 < (List.length s_ : Int))) then (lsAt s_ v5).bind fun x8 => (attr_index_1 x8 f).bind fun x9 => if x9 then some (.done v5) else some (.cont (IntKind.wrap .i64 (v5 + 1))) else some (.done (-1))
noncomputable def slices_IndexFunc_api_Attr_api_Attr_f100 (s_ : (List api_Attr)) (f : Str) : Option Int :=
  loopM (fun s => slices_IndexFunc_api_Attr_api_Attr_f100_L6 s_ f s) 0

/- attr_index -/
noncomputable def attr_index (l : (List api_Attr)) (name : Str) : Option Int :=
  (slices_IndexFunc_api_Attr_api_Attr_f100 l name).bind fun x1 => some x1

/- attr_Find -/
noncomputable def attr_Find (l : (List api_Attr)) (name : Str) : Option (Str × Bool) :=
  (attr_index l name).bind fun x1 => if (decide (x1 < 0)) then some ([], false) else (lsAt l x1).bind fun x3 => some (x3.Value, true)

/- slices_Index_string_string -/
noncomputable def slices_Index_string_string_L5 (s_ : (List Str)) (v : Str) (v4 : Int) : Option (Step Int Int) :=
  if (decide (v4 < (List.length s_ : Int))) then (lsAt s_ v4).bind fun x7 => if (decide (v = x7)) then some (.done v4) else some (.cont (IntKind.wrap .i64 (v4 + 1))) else some (.done (-1))
noncomputable def slices_Index_string_string (s_ : (List Str)) (v : Str) : Option Int :=
  loopM (fun s => slices_Index_string_string_L5 s_ v s) 0

/- slices_Contains_string_string -/
noncomputable def slices_Contains_string_string (s_ : (List Str)) (v : Str) : Option Bool :=
  (slices_Index_string_string s_ v).bind fun x1 => some (decide (0 ≤ x1))

/- dial_once -/
/- dial_once_o -/
noncomputable def dial_once_o (l : (List Str)) (s_ : Str) : Option (List Str) :=
  (slices_Contains_string_string l s_).bind fun x1 => if x1 then some l else (appL 16 l [s_]).bind fun x3 => some x3

/- dial_values -/
noncomputable def dial_values_L8 (l : (List api_Entry)) (name : Str) (v6 : Int) (out : (List Str)) : Option (Step (Int × (List Str)) (List Str)) :=
  if (decide (v6 < (List.length l : Int))) then (lsAt l v6).bind fun x10 => (attr_Find x10.Attrs name).bind fun x11 => if x11.2 then (dial_once_o out x11.1).bind fun x13 => some (.cont ((IntKind.wrap .i64 (v6 + 1)), x13)) else some (.cont ((IntKind.wrap .i64 (v6 + 1)), out)) else some (.done out)
noncomputable def dial_values (l : (List api_Entry)) (name : Str) : Option (List Str) :=
  loopM (fun s => dial_values_L8 l name s.1 s.2) (0, ([] : List Str))

/- dial_networks -/
noncomputable def dial_networks_L13 (name : Str) (x1 : (List Str)) (v11 : Int) (out : (List Str)) : Option (Step (Int × (List Str)) (List Str)) :=
  if (decide (v11 < (List.length x1 : Int))) then (lsAt x1 v11).bind fun x15 => (dial_isNet x15).bind fun x16 => if (x16 && ((!decide (x15 = [110, 101, 116])) && ((decide (name = [110, 101, 116])) || (decide (name = x15))))) then (appL 16 out [x15]).bind fun x22 => some (.cont ((IntKind.wrap .i64 (v11 + 1)), x22)) else some (.cont ((IntKind.wrap .i64 (v11 + 1)), out)) else some (.done out)
noncomputable def dial_networks (l : (List api_Entry)) (name : Str) : Option (List Str) :=
  (dial_values l [110, 101, 116]).bind fun x1 => loopM (fun s => dial_networks_L13 name x1 s.1 s.2) (0, ([] : List Str))

/- dial_Query -/
noncomputable def dial_Query_A19 (want : Str) (hits : (List api_Entry)) : Option (List Str) :=
  (dial_values hits want).bind fun x18 => some x18
noncomputable def dial_Query_L10 (l : (List api_Entry)) (name : Str) (value : Str) (want : Str) (v8 : Int) (hits : (List api_Entry)) : Option (Step (Int × (List api_Entry)) (List Str)) :=
  if (decide (v8 < (List.length l : Int))) then (lsAt l v8).bind fun x12 => (attr_Find x12.Attrs name).bind fun x13 => if (x13.2 && (decide (x13.1 = value))) then (appL 24 hits [x12]).bind fun x17 => some (.cont ((IntKind.wrap .i64 (v8 + 1)), x17)) else some (.cont ((IntKind.wrap .i64 (v8 + 1)), hits)) else (dial_Query_A19 want hits).map .done
noncomputable def dial_Query (l : (List api_Entry)) (name : Str) (value : Str) (want : Str) : Option (List Str) :=
  loopM (fun s => dial_Query_L10 l name value want s.1 s.2) (0, ([] : List api_Entry))

/- dial_hosts_1 -/
noncomputable def dial_hosts_1 (s_ : Str) : Option Bool :=
  (dial_isHost s_).bind fun x1 => some (!x1)

/- slices_IndexFunc_string_string_f76 -/
noncomputable def slices_IndexFunc_string_string_f76_L6 (s_ : (List Str)) (v5 : Int) : Option (Step Int Int) :=
  if (decide (v5 < (List.length s_ : Int))) then (lsAt s_ v5).bind fun x8 => (dial_hosts_1 x8).bind fun x9 => if x9 then some (.done v5) else some (.cont (IntKind.wrap .i64 (v5 + 1))) else some (.done (-1))
noncomputable def slices_IndexFunc_string_string_f76 (s_ : (List Str)) : Option Int :=
  loopM (fun s => slices_IndexFunc_string_string_f76_L6 s_ s) 0

/- slices_DeleteFunc_string_string_f76 -/
/- slices_DeleteFunc_string_string_o_f76 -/
noncomputable def slices_DeleteFunc_string_string_o_f76_A18 (i : Int) (s__1 : (List Str)) : Option (List Str) :=
  (cut s__1 0 i).bind fun x17 => some x17
noncomputable def slices_DeleteFunc_string_string_o_f76_L11 (i : Int) (j : Int) (s__1 : (List Str)) : Option (Step (Int × Int × (List Str)) (List Str)) :=
  if (decide (j < (List.length s__1 : Int))) then (lsAt s__1 j).bind fun x13 => (dial_hosts_1 x13).bind fun x14 => if (!x14) then (lsAt s__1 i).bind fun x16 => some (.cont ((IntKind.wrap .i64 (i + 1)), (IntKind.wrap .i64 (j + 1)), (List.set s__1 (Int.toNat i) x13))) else some (.cont (i, (IntKind.wrap .i64 (j + 1)), s__1)) else (slices_DeleteFunc_string_string_o_f76_A18 i s__1).map .done
noncomputable def slices_DeleteFunc_string_string_o_f76 (s_ : (List Str)) : Option (List Str) :=
  (slices_IndexFunc_string_string_f76 s_).bind fun x1 => if (decide (x1 = (-1))) then some s_ else loopM (fun s => slices_DeleteFunc_string_string_o_f76_L11 s.1 s.2.1 s.2.2) (x1, (IntKind.wrap .i64 (x1 + 1)), s_)

/- dial_hosts -/
noncomputable def dial_hosts (l : (List api_Entry)) (host : Str) (name : Str) : Option (List Str) :=
  if (decide (name = [42])) then some [name] else (if (decide (name = [115, 101, 108, 102])) then (dial_isHost host).bind fun x3 => some x3 else some false).bind fun t4 => if t4 then some [host] else if (decide (name = [115, 101, 108, 102])) then some ([] : (List Str)) else (dial_values l [104, 111, 115, 116]).bind fun x7 => (slices_Contains_string_string x7 name).bind fun x8 => if x8 then some [name] else (dial_Query l [97, 108, 105, 97, 115] name [104, 111, 115, 116]).bind fun x10 => (slices_DeleteFunc_string_string_o_f76 x10).bind fun x11 => some x11

/- num_known -/
noncomputable def num_known (base : Int) : Option Bool :=
  some ((decide (base = 8)) || ((decide (base = 10)) || (decide (base = 16))))

/- num_digit -/
noncomputable def num_digit (c : Int) : Option Int :=
  if ((decide (48 ≤ c)) && (decide (c ≤ 57))) then some (IntKind.wrap .i64 (IntKind.wrap .u8 (c - 48))) else if ((decide (97 ≤ c)) && (decide (c ≤ 102))) then some (IntKind.wrap .i64 ((IntKind.wrap .i64 (IntKind.wrap .u8 (c - 97))) + 10)) else some 16

/- num_Parse -/
noncomputable def num_Parse_L20 (s_ : Str) (base : Int) (most : Int) (n : Int) (v19 : Int) : Option (Step (Int × Int) (Int × Int)) :=
  if (decide (v19 < (List.length s_ : Int))) then (strAt s_ v19).bind fun c22 => (num_digit (c22.toNat : Int)).bind fun x23 => (if (decide (base ≤ x23)) then some true else (quoI .i64 (IntKind.wrap .i64 (most - x23)) base).bind fun x25 => if (decide (x25 < n)) then some true else some (decide (most < x23))).bind fun t27 => if t27 then some (.done (0, 5)) else some (.cont ((IntKind.wrap .i64 ((IntKind.wrap .i64 (n * base)) + x23)), (IntKind.wrap .i64 (v19 + 1)))) else some (.done (n, 0))
noncomputable def num_Parse (s_ : Str) (base : Int) (most : Int) : Option (Int × Int) :=
  (num_known base).bind fun x1 => if ((!x1) || (decide (most < 0))) then some (0, 1) else (if (decide (s_ = [])) then some true else if (decide (1 < (List.length s_ : Int))) then (strAt s_ 0).bind fun c7 => some (decide ((c7.toNat : Int) = 48)) else some false).bind fun t8 => if t8 then some (0, 5) else loopM (fun s => num_Parse_L20 s_ base most s.1 s.2) (0, 0)

/- dial_isPort -/
noncomputable def dial_isPort (s_ : Str) : Option Bool :=
  (num_Parse s_ 10 65535).bind fun x1 => some ((decide (x1.2 = 0)) && (decide (0 < x1.1)))

/- dial_port -/
noncomputable def dial_port_L11 (x5 : (List Str)) (v10 : Int) : Option (Step Int Str) :=
  if (decide (v10 < (List.length x5 : Int))) then (lsAt x5 v10).bind fun x13 => (dial_isPort x13).bind fun x14 => if x14 then some (.done x13) else some (.cont (IntKind.wrap .i64 (v10 + 1))) else some (.done [])
noncomputable def dial_port_K1 (l : (List api_Entry)) (network : Str) (p2 : Str) : Option Str :=
  (dial_isPort p2).bind fun x3 => if x3 then some p2 else (dial_Query l [115, 101, 114, 118, 105, 99, 101] p2 network).bind fun x5 => loopM (fun s => dial_port_L11 x5 s) 0
noncomputable def dial_port (l : (List api_Entry)) (network : Str) (service : Str) : Option Str :=
  if (decide (service = [])) then (dial_Query l [110, 101, 116] network [115, 101, 114, 118, 105, 99, 101]).bind fun x17 => if (decide ((List.length x17 : Int) = 0)) then some [] else (lsAt x17 0).bind fun x19 => dial_port_K1 l network x19 else dial_port_K1 l network service

/- dial_Translate -/
noncomputable def dial_Translate_L32 (x5 : (List Str)) (v20 : Int) (x24 : Str) (x25 : Str) (v30 : Int) (out_1 : (List api_Addr)) : Option (Step (Int × (List api_Addr)) (Step (Int × (List api_Addr)) ((List api_Addr) × Int))) :=
  if (decide (v30 < (List.length x5 : Int))) then (lsAt x5 v30).bind fun x34 => (appL 48 out_1 [(api_Addr.mk x24 x34 x25)]).bind fun x35 => some (.cont ((IntKind.wrap .i64 (v30 + 1)), x35)) else some (.done (.cont ((IntKind.wrap .i64 (v20 + 1)), out_1)))
noncomputable def dial_Translate_A37 (out : (List api_Addr)) : Option ((List api_Addr) × Int) :=
  if (decide ((List.length out : Int) = 0)) then some (([] : (List api_Addr)), 39) else some (out, 0)
noncomputable def dial_Translate_L22 (l : (List api_Entry)) (a : api_Addr) (x3 : (List Str)) (x5 : (List Str)) (v20 : Int) (out : (List api_Addr)) : Option (Step (Int × (List api_Addr)) ((List api_Addr) × Int)) :=
  if (decide (v20 < (List.length x3 : Int))) then (lsAt x3 v20).bind fun x24 => (dial_port l x24 a.Service).bind fun x25 => if (decide (x25 = [])) then some (.cont ((IntKind.wrap .i64 (v20 + 1)), out)) else loopM (fun s => dial_Translate_L32 x5 v20 x24 x25 s.1 s.2) (0, out) else (dial_Translate_A37 out).map .done
noncomputable def dial_Translate (l : (List api_Entry)) (host : Str) (a : api_Addr) : Option ((List api_Addr) × Int) :=
  (dial_valid a).bind fun x1 => if (!x1) then some (([] : (List api_Addr)), 36) else (dial_networks l a.Net).bind fun x3 => if (decide ((List.length x3 : Int) = 0)) then some (([] : (List api_Addr)), 37) else (dial_hosts l host a.Host).bind fun x5 => if (decide ((List.length x5 : Int) = 0)) then some (([] : (List api_Addr)), 38) else loopM (fun s => dial_Translate_L22 l a x3 x5 s.1 s.2) (0, ([] : List api_Addr))

/- dial_Print -/
noncomputable def dial_Print (a : api_Addr) : Option (Str × Int) :=
  (dial_valid a).bind fun x1 => if (!x1) then some ([], 36) else (catS a.Net [33]).bind fun x3 => (catS x3 a.Host).bind fun x4 => if (!decide (a.Service = [])) then (catS [33] a.Service).bind fun x6 => (catS x4 x6).bind fun x7 => some (x7, 0) else some (x4, 0)

/- dial_Parse -/
noncomputable def dial_Parse_K7 (x1 : (List Str)) (x5 : Str) (x6 : Str) (p8 : Str) : Option (api_Addr × Int) :=
  (dial_valid (api_Addr.mk x5 x6 p8)).bind fun x9 => if ((!x9) || ((decide ((List.length x1 : Int) = 3)) && (decide (p8 = [])))) then some ((api_Addr.mk [] [] []), 36) else some ((api_Addr.mk x5 x6 p8), 0)
noncomputable def dial_Parse (s_ : Str) : Option (api_Addr × Int) :=
  (strings_Split s_ [33]).bind fun x1 => if ((decide ((List.length x1 : Int) < 2)) || (decide (3 < (List.length x1 : Int)))) then some ((api_Addr.mk [] [] []), 36) else (lsAt x1 0).bind fun x5 => (lsAt x1 1).bind fun x6 => if (decide ((List.length x1 : Int) = 3)) then (lsAt x1 2).bind fun x15 => dial_Parse_K7 x1 x5 x6 x15 else dial_Parse_K7 x1 x5 x6 []

/- law27_awake -/
noncomputable def law27_awake : Option Bool :=
  (dial_Db [110, 101, 116, 61, 116, 99, 112, 32, 115, 101, 114, 118, 105, 99, 101, 61, 57, 102, 115, 10, 115, 101, 114, 118, 105, 99, 101, 61, 57, 102, 115, 10, 32, 116, 99, 112, 61, 53, 54, 52, 10, 104, 111, 115, 116, 61, 102, 115, 10]).bind fun x1 => (if (!decide (x1.2.2 = 0)) then some true else if (!decide (x1.2.1 = 0)) then some true else if (!decide ((List.length x1.1 : Int) = 3)) then some true else (lsAt x1.1 1).bind fun x5 => some (!decide ((List.length x5.Attrs : Int) = 2))).bind fun t6 => if t6 then some false else (dial_Translate x1.1 [116, 101, 114, 109] (api_Addr.mk [110, 101, 116] [102, 115] [])).bind fun x8 => if ((!decide (x8.2 = 0)) || (!decide ((List.length x8.1 : Int) = 1))) then some false else (lsAt x8.1 0).bind fun x12 => (dial_Print x12).bind fun x13 => (dial_Parse [116, 99, 112, 33, 102, 115, 33, 53, 54, 52]).bind fun x14 => (if (decide (x13.1 = [116, 99, 112, 33, 102, 115, 33, 53, 54, 52])) then if (decide (x13.2 = 0)) then (lsAt x8.1 0).bind fun x17 => if (decide (x14.1.Net = x17.Net) && (decide (x14.1.Host = x17.Host) && (decide (x14.1.Service = x17.Service) && true))) then some (decide (x14.2 = 0)) else some false else some false else some false).bind fun t19 => some t19

/- ref27_parts -/
/- ref27_letters -/
/- ref27_Net -/
/- ref27_Host -/
/- ref27_Right -/
/- ref27_Parse -/
/- ref27_Print -/
/- law27_DialTexts -/
/- ref27_lines -/
/- ref27_ignored -/
/- ref22_space -/
/- ref22_ends -/
/- ref22_quoted -/
/- ref22_read -/
/- ref22_Secret -/
noncomputable def ref22_Secret (name : Str) : Option Bool :=
  (if (decide (0 < (List.length name : Int))) then (strAt name 0).bind fun c2 => some (decide ((c2.toNat : Int) = 33)) else some false).bind fun t3 => some t3

/- ref22_Name -/
noncomputable def ref22_Name_L12 (p2 : Str) (i : Int) : Option (Step Int Bool) :=
  if (decide (i < (List.length p2 : Int))) then (strAt p2 i).bind fun c14 => (if (decide (97 ≤ (c14.toNat : Int))) then (strAt p2 i).bind fun c16 => some (decide ((c16.toNat : Int) ≤ 122)) else some false).bind fun t17 => (if (!t17) then if (decide (i = 0)) then some true else (strAt p2 i).bind fun c20 => if (decide (48 ≤ (c20.toNat : Int))) then (strAt p2 i).bind fun c22 => if (decide ((c22.toNat : Int) ≤ 57)) then some false else (strAt p2 i).bind fun c24 => if (decide ((c24.toNat : Int) = 45)) then some false else (strAt p2 i).bind fun c26 => some (!(decide ((c26.toNat : Int) = 95))) else (strAt p2 i).bind fun c27 => if (decide ((c27.toNat : Int) = 45)) then some false else (strAt p2 i).bind fun c29 => some (!(decide ((c29.toNat : Int) = 95))) else some false).bind fun t30 => if t30 then some (.done false) else some (.cont (IntKind.wrap .i64 (i + 1))) else some (.done ((decide (1 ≤ (List.length p2 : Int))) && (decide ((List.length p2 : Int) ≤ 32))))
noncomputable def ref22_Name_K1 (p2 : Str) : Option Bool :=
  loopM (fun s => ref22_Name_L12 p2 s) 0
noncomputable def ref22_Name (s_ : Str) : Option Bool :=
  (ref22_Secret s_).bind fun x34 => if x34 then (cut s_ 1 (List.length s_ : Int)).bind fun x36 => ref22_Name_K1 x36 else ref22_Name_K1 s_

/- ref22_plain -/
noncomputable def ref22_plain_L10 (s_ : Str) (i : Int) : Option (Step Int Bool) :=
  if (decide (i < (List.length s_ : Int))) then (strAt s_ i).bind fun c12 => (if (decide ((c12.toNat : Int) = 0)) then some true else (strAt s_ i).bind fun c14 => if (decide ((c14.toNat : Int) = 10)) then some true else (strAt s_ i).bind fun c16 => some (decide ((c16.toNat : Int) = 13))).bind fun t17 => if t17 then some (.done false) else some (.cont (IntKind.wrap .i64 (i + 1))) else some (.done true)
noncomputable def ref22_plain (s_ : Str) : Option Bool :=
  loopM (fun s => ref22_plain_L10 s_ s) 0

/- ref22_one -/
noncomputable def ref22_one_L15 (before : (List api_Attr)) (a : api_Attr) (i : Int) : Option (Step Int Int) :=
  if (decide (i < (List.length before : Int))) then (lsAt before i).bind fun x17 => if (decide (x17.Name = a.Name)) then some (.done 7) else some (.cont (IntKind.wrap .i64 (i + 1))) else some (.done 0)
noncomputable def ref22_one (before : (List api_Attr)) (a : api_Attr) : Option Int :=
  if (decide (32 ≤ (List.length before : Int))) then some 22 else (ref22_Name a.Name).bind fun x2 => if (!x2) then some 6 else (if a.Query then if (!decide (a.Value = [])) then some true else (ref22_plain a.Value).bind fun x6 => some (!x6) else (ref22_plain a.Value).bind fun x7 => some (!x7)).bind fun t8 => if t8 then some 2 else if (decide (1024 < (List.length a.Value : Int))) then some 4 else loopM (fun s => ref22_one_L15 before a s) 0

/- ref22_Parse -/
/- ref27_asks -/
noncomputable def ref27_asks_L5 (l : (List api_Attr)) (i : Int) : Option (Step Int Bool) :=
  if (decide (i < (List.length l : Int))) then (lsAt l i).bind fun x7 => if x7.Query then some (.done true) else some (.cont (IntKind.wrap .i64 (i + 1))) else some (.done false)
noncomputable def ref27_asks (l : (List api_Attr)) : Option Bool :=
  loopM (fun s => ref27_asks_L5 l s) 0

/- ref22_Check -/
noncomputable def ref22_Check_L7 (l : (List api_Attr)) (i : Int) : Option (Step Int Int) :=
  if (decide (i < (List.length l : Int))) then (cut l 0 i).bind fun x9 => (lsAt l i).bind fun x10 => (ref22_one x9 x10).bind fun x11 => if (!decide (x11 = 0)) then some (.done x11) else some (.cont (IntKind.wrap .i64 (i + 1))) else some (.done 0)
noncomputable def ref22_Check (l : (List api_Attr)) : Option Int :=
  loopM (fun s => ref22_Check_L7 l s) 0

/- ref27_Db -/
/- ref22_Same -/
/- ref27_Same -/
/- law27_DialReads -/
/- law27_small -/
noncomputable def law27_small_L40 (l : (List api_Entry)) (n : Int) (v25 : Int) (x28 : api_Entry) (x30 : api_Entry) (v39 : Int) : Option (Step Int (Step (Int × Int) Bool)) :=
  if (decide (v39 < (List.length x30.Attrs : Int))) then (lsAt l v25).bind fun x42 => (lsAt x42.Attrs v39).bind fun x43 => (if (decide (1100 < (List.length x43.Name : Int))) then some true else (lsAt l v25).bind fun x45 => (lsAt x45.Attrs v39).bind fun x46 => some (decide (1100 < (List.length x46.Value : Int)))).bind fun t47 => if t47 then some (.done (.done false)) else some (.cont (IntKind.wrap .i64 (v39 + 1))) else some (.done (.cont ((IntKind.wrap .i64 (n + (List.length x28.Attrs : Int))), (IntKind.wrap .i64 (v25 + 1)))))
noncomputable def law27_small_L26 (l : (List api_Entry)) (n : Int) (v25 : Int) : Option (Step (Int × Int) Bool) :=
  if (decide (v25 < (List.length l : Int))) then (lsAt l v25).bind fun x28 => if (decide (600 < (IntKind.wrap .i64 (n + (List.length x28.Attrs : Int))))) then some (.done false) else (lsAt l v25).bind fun x30 => loopM (fun s => law27_small_L40 l n v25 x28 x30 s) 0 else some (.done true)
noncomputable def law27_small (l : (List api_Entry)) : Option Bool :=
  if (decide (300 < (List.length l : Int))) then some false else loopM (fun s => law27_small_L26 l s.1 s.2) (0, 0)

/- ref22_Find -/
/- ref27_has -/
/- ref27_values -/
/- ref27_Query -/
/- law27_DialQueries -/
/- ref27_Nets -/
/- ref27_Known -/
/- ref27_hosts -/
/- ref01_based -/
/- ref01_digit -/
/- ref01_Parse -/
/- ref27_Port -/
/- ref27_port -/
/- ref27_Translate -/
/- law27_DialTranslates -/
/- law27_DialSettles -/
/- strings_ReplaceAll -/
noncomputable def strings_ReplaceAll (a0 : Str) (a1 : Str) (a2 : Str) : Option Str := xReplaceAll a0 a1 a2

/- attr_quote -/
noncomputable def attr_quote (s_ : Str) : Option Str :=
  (if (!decide (s_ = [])) then (attr_until s_ [32, 9, 39]).bind fun x2 => some (decide (x2 = (List.length s_ : Int))) else some false).bind fun t3 => if t3 then some s_ else (strings_ReplaceAll s_ [39] [39, 39]).bind fun x5 => (catS [39] x5).bind fun x6 => (catS x6 [39]).bind fun x7 => some x7

/- strings_Join -/
noncomputable def strings_Join (a0 : (List Str)) (a1 : Str) : Option Str := xJoin a0 a1

/- attr_Print -/
noncomputable def attr_Print_A26 (words : (List Str)) : Option (Str × Int) :=
  (strings_Join words [32]).bind fun x25 => some (x25, 0)
noncomputable def attr_Print_L15 (l : (List api_Attr)) (v13 : Int) (words : (List Str)) : Option (Step (Int × (List Str)) (Str × Int)) :=
  if (decide (v13 < (List.length l : Int))) then (lsAt l v13).bind fun x17 => if x17.Query then (catS x17.Name [63]).bind fun x19 => (appL 16 words [x19]).bind fun x20 => some (.cont ((IntKind.wrap .i64 (v13 + 1)), x20)) else (catS x17.Name [61]).bind fun x21 => (attr_quote x17.Value).bind fun x22 => (catS x21 x22).bind fun x23 => (appL 16 words [x23]).bind fun x24 => some (.cont ((IntKind.wrap .i64 (v13 + 1)), x24)) else (attr_Print_A26 words).map .done
noncomputable def attr_Print (l : (List api_Attr)) : Option (Str × Int) :=
  (attr_Check l).bind fun x1 => if (!decide (x1 = 0)) then some ([], x1) else (mkC 16 ([] : Str) 0 (List.length l : Int)).bind fun x3 => loopM (fun s => attr_Print_L15 l s.1 s.2) (0, x3)

/- dial_Text -/
noncomputable def dial_Text_L14 (l : (List api_Entry)) (v12 : Int) (v13 : Str) : Option (Step (Int × Str) (Str × Int)) :=
  if (decide (v12 < (List.length l : Int))) then (lsAt l v12).bind fun x16 => (if (decide ((List.length x16.Attrs : Int) = 0)) then some true else (dial_asks x16.Attrs).bind fun x18 => some x18).bind fun t19 => if t19 then some (.done ([], 2)) else (attr_Print x16.Attrs).bind fun x21 => if (!decide (x21.2 = 0)) then some (.done ([], x21.2)) else (catS x21.1 [10]).bind fun x23 => (bAdd v13 x23).bind fun x24 => some (.cont ((IntKind.wrap .i64 (v12 + 1)), x24)) else some (.done (v13, 0))
noncomputable def dial_Text (l : (List api_Entry)) : Option (Str × Int) :=
  if (decide (256 < (List.length l : Int))) then some ([], 22) else loopM (fun s => dial_Text_L14 l s.1 s.2) (0, ([] : Str))

/- ref22_Quote -/
noncomputable def ref22_Quote_A34 (s_ : Str) (out : Str) (odd : Bool) : Option Str :=
  if odd then (catS [39] out).bind fun x32 => (catS x32 [39]).bind fun x33 => some x33 else some s_
noncomputable def ref22_Quote_L17 (s_ : Str) (out : Str) (odd : Bool) (i : Int) : Option (Step (Str × Bool × Int) Str) :=
  if (decide (i < (List.length s_ : Int))) then (if odd then some true else (strAt s_ i).bind fun c20 => if (decide ((c20.toNat : Int) = 32)) then some true else (strAt s_ i).bind fun c22 => if (decide ((c22.toNat : Int) = 9)) then some true else (strAt s_ i).bind fun c24 => some (decide ((c24.toNat : Int) = 39))).bind fun t25 => (cut s_ i (IntKind.wrap .i64 (i + 1))).bind fun x26 => (catS out x26).bind fun x27 => (strAt s_ i).bind fun c28 => if (decide ((c28.toNat : Int) = 39)) then (catS x27 [39]).bind fun x30 => some (.cont (x30, t25, (IntKind.wrap .i64 (i + 1)))) else some (.cont (x27, t25, (IntKind.wrap .i64 (i + 1)))) else (ref22_Quote_A34 s_ out odd).map .done
noncomputable def ref22_Quote (s_ : Str) : Option Str :=
  loopM (fun s => ref22_Quote_L17 s_ s.1 s.2.1 s.2.2) ([], (decide (s_ = [])), 0)

/- ref22_Print -/
noncomputable def ref22_Print_K19 (l : (List api_Attr)) (i : Int) (p20 : Str) : Option (Step (Str × Int) (Str × Int)) :=
  (lsAt l i).bind fun x21 => if x21.Query then (lsAt l i).bind fun x23 => (catS p20 x23.Name).bind fun x24 => (catS x24 [63]).bind fun x25 => some (.cont (x25, (IntKind.wrap .i64 (i + 1)))) else (lsAt l i).bind fun x26 => (catS p20 x26.Name).bind fun x27 => (catS x27 [61]).bind fun x28 => (lsAt l i).bind fun x29 => (ref22_Quote x29.Value).bind fun x30 => (catS x28 x30).bind fun x31 => some (.cont (x31, (IntKind.wrap .i64 (i + 1))))
noncomputable def ref22_Print_L17 (l : (List api_Attr)) (s_ : Str) (i : Int) : Option (Step (Str × Int) (Str × Int)) :=
  if (decide (i < (List.length l : Int))) then if (decide (0 < i)) then (catS s_ [32]).bind fun x33 => ref22_Print_K19 l i x33 else ref22_Print_K19 l i s_ else some (.done (s_, 0))
noncomputable def ref22_Print (l : (List api_Attr)) : Option (Str × Int) :=
  (ref22_Check l).bind fun x1 => if (!decide (x1 = 0)) then some ([], x1) else loopM (fun s => ref22_Print_L17 l s.1 s.2) ([], 0)

/- ref27_Text -/
noncomputable def ref27_Text_L16 (l : (List api_Entry)) (s_ : Str) (i : Int) : Option (Step (Str × Int) (Str × Int)) :=
  if (decide (i < (List.length l : Int))) then (lsAt l i).bind fun x18 => (if (decide ((List.length x18.Attrs : Int) = 0)) then some true else (lsAt l i).bind fun x20 => (ref27_asks x20.Attrs).bind fun x21 => some x21).bind fun t22 => if t22 then some (.done ([], 2)) else (lsAt l i).bind fun x24 => (ref22_Print x24.Attrs).bind fun x25 => if (!decide (x25.2 = 0)) then some (.done ([], x25.2)) else (catS s_ x25.1).bind fun x27 => (catS x27 [10]).bind fun x28 => some (.cont (x28, (IntKind.wrap .i64 (i + 1)))) else some (.done (s_, 0))
noncomputable def ref27_Text (l : (List api_Entry)) : Option (Str × Int) :=
  if (decide (256 < (List.length l : Int))) then some ([], 22) else loopM (fun s => ref27_Text_L16 l s.1 s.2) ([], 0)

/- law27_DialPrints -/
noncomputable def law27_DialPrints (l : (List api_Entry)) : Option Bool :=
  (law27_small l).bind fun x1 => if (!x1) then (law27_awake).bind fun x3 => some x3 else (dial_Text l).bind fun x4 => (ref27_Text l).bind fun x5 => (if (decide (x4.1 = x5.1)) then if (decide (x4.2 = x5.2)) then (law27_awake).bind fun x8 => some x8 else some false else some false).bind fun t9 => some t9

/- law27_DialReturns -/
/- stringslite_Index -/
/- strings_Replace -/
/- bytealg_Cutover -/
/- bytealg_hashStr_string -/
/- bytealg_IndexRabinKarp_string -/
end Go.Proofs.YtphblddgbbgdnaaDoor
