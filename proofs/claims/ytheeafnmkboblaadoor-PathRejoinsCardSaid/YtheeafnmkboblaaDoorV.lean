/- The machine's code of the functions of this translation, printed by a program of the claim's author. -/
import Derived.Test.YtheeafnmkboblaaDoorVmX
import Derived.Test.YtheeafnmkboblaaDoorChecked
import Derived.KernelRfl
namespace Go.Proofs.YtheeafnmkboblaaDoor
open Go.Vm
set_option autoImplicit false
set_option linter.unusedVariables false
set_option linter.unusedSimpArgs false
set_option maxRecDepth 100000

theorem mixed : Tryd.prog.follows .mixedOrders = true := by kernel_rfl

/- unicode_utf8_RuneCountInString -/
def r45_1 : List VOper := [
  { dst := some 2, op := .mov (.c (.int .i64 0)) }]
def r45_2 : List VOper := [
  { dst := some 3, op := .mov (.t 0) },
  { dst := some 4, op := .bad }]
def r45_3 : List VOper := [
  { dst := some 5, op := .bad },
  { dst := some 6, op := .extract (.t 5) 0 }]
def v45_4 : VCode := (.keep [2, 4] (.weak .skip))
def v45_5 : VCode := (.keep [2] (.weak (.exit 0)))
def v45_6 : VCode := (.cond (.t 6) v45_4 v45_5)
def r45_7 : List VOper := [
  { dst := some 7, op := .mov (.t 2) },
  { dst := some 8, op := .bin .add (.t 7) (.c (.int .i64 1)) },
  { dst := some 2, op := .mov (.t 8) }]
def v45_8 : VCode := (.post [2, 4] (.region false r45_7))
def v45_9 : VCode := (.block 1 v45_8)
def v45_10 : VCode := (.seq v45_6 v45_9)
def v45_11 : VCode := (.seq (.region false r45_3) (.keep [2, 4, 6] (.weak v45_10)))
def v45_12 : VCode := (.loop [2, 4] v45_11)
def v45_13 : VCode := (.keep [2, 4] (.weak v45_12))
def v45_14 : VCode := (.block 0 v45_13)
def v45_15 : VCode := (.seq (.region false r45_2) (.keep [2, 4] (.weak v45_14)))
def r45_16 : List VOper := [
  { dst := some 9, op := .mov (.t 2) },
  { dst := some 2, op := .mov (.t 9) }]
def v45_17 : VCode := (.seq (.region false r45_16) (.keep [2] (.weak .ret)))
def v45_18 : VCode := (.seq v45_15 v45_17)
def v45 : VCode := (.seq (.region false r45_1) (.keep [0, 2, 9] (.weak v45_18)))
theorem hv45 : codeOf Tryd.prog Tryd.f45.ntmps v45 (Tryd.f45.body.getD .skip) = some v45 := by kernel_rfl
theorem ok45 {ds : List PV} {r : PV} {fl : Bool} (h : vwp Tryd.prog v45 (retQ [(2, none)] r fl) (initSt ds)) : CallOK Tryd.prog 45 ds r fl :=
  fn_ok Tryd.func45 rfl (by decide) hv45 rfl mixed h

/- unicode_utf8_decodeRuneInStringSlow -/
def r51_1 : List VOper := [
  { dst := some 2, op := .mov (.c (.int .i32 0)) },
  { dst := some 3, op := .mov (.c (.int .i64 0)) }]
def r51_2 : List VOper := [
  { dst := some 13, op := .mov (.t 0) },
  { dst := some 14, op := .lenStr (.t 13) },
  { dst := some 4, op := .mov (.t 14) }]
def r51_3 : List VOper := [
  { dst := some 15, op := .mov (.t 4) },
  { dst := some 16, op := .bin .lss (.t 15) (.c (.int .i64 1)) }]
def r51_4 : List VOper := [
  { dst := some 2, op := .mov (.c (.int .i32 65533)) },
  { dst := some 3, op := .mov (.c (.int .i64 0)) }]
def v51_5 : VCode := (.seq (.region false r51_4) (.keep [2, 3] (.weak .ret)))
def v51_6 : VCode := (.keep [0, 4] (.weak .skip))
def v51_7 : VCode := (.cond (.t 16) v51_5 v51_6)
def v51_8 : VCode := (.seq (.region false r51_3) (.keep [0, 4, 16] (.weak v51_7)))
def r51_9 : List VOper := [
  { dst := some 17, op := .mov (.t 0) },
  { dst := some 18, op := .indexStr (.t 17) (.c (.int .i64 0)) },
  { dst := some 5, op := .mov (.t 18) }]
def r51_10 : List VOper := [
  { dst := some 19, op := .mov (.t 5) },
  { dst := some 20, op := .bad },
  { dst := some 21, op := .load none (.t 20) },
  { dst := some 6, op := .mov (.t 21) }]
def r51_11 : List VOper := [
  { dst := some 22, op := .mov (.t 6) },
  { dst := some 23, op := .bin .geq (.t 22) (.c (.int .u8 240)) }]
def r51_12 : List VOper := [
  { dst := some 24, op := .mov (.t 6) },
  { dst := some 25, op := .conv .i32 (.t 24) },
  { dst := some 26, op := .bin .shl (.t 25) (.c (.int .u64 31)) },
  { dst := some 27, op := .bin .shr (.t 26) (.c (.int .u64 31)) },
  { dst := some 7, op := .mov (.t 27) }]
def r51_13 : List VOper := [
  { dst := some 28, op := .mov (.t 0) },
  { dst := some 29, op := .indexStr (.t 28) (.c (.int .i64 0)) },
  { dst := some 30, op := .conv .i32 (.t 29) },
  { dst := some 31, op := .mov (.t 7) },
  { dst := some 32, op := .bin .andNot (.t 30) (.t 31) },
  { dst := some 33, op := .mov (.t 7) },
  { dst := some 34, op := .bin .and (.c (.int .i32 65533)) (.t 33) },
  { dst := some 35, op := .bin .or (.t 32) (.t 34) },
  { dst := some 2, op := .mov (.t 35) },
  { dst := some 3, op := .mov (.c (.int .i64 1)) }]
def v51_14 : VCode := (.seq (.region false r51_13) (.keep [2, 3] (.weak .ret)))
def v51_15 : VCode := (.seq (.region false r51_12) (.keep [0, 7] (.weak v51_14)))
def v51_16 : VCode := (.keep [0, 4, 5, 6] (.weak .skip))
def v51_17 : VCode := (.cond (.t 23) v51_15 v51_16)
def v51_18 : VCode := (.seq (.region false r51_11) (.keep [0, 4, 5, 6, 23] (.weak v51_17)))
def r51_19 : List VOper := [
  { dst := some 36, op := .mov (.t 6) },
  { dst := some 37, op := .bin .and (.t 36) (.c (.int .u8 7)) },
  { dst := some 38, op := .conv .i64 (.t 37) },
  { dst := some 8, op := .mov (.t 38) }]
def r51_20 : List VOper := [
  { dst := some 39, op := .mov (.t 6) },
  { dst := some 40, op := .bin .shr (.t 39) (.c (.int .u64 4)) },
  { dst := some 41, op := .bad },
  { dst := some 42, op := .load (some 2) (.t 41) },
  { dst := some 9, op := .alloc (some 2) (.agg [.int .u8 0, .int .u8 0]) },
  { dst := none, op := .store (some 2) (.t 9) (.t 42) }]
def r51_21 : List VOper := [
  { dst := some 43, op := .mov (.t 4) },
  { dst := some 44, op := .mov (.t 8) },
  { dst := some 45, op := .bin .lss (.t 43) (.t 44) }]
def r51_22 : List VOper := [
  { dst := some 2, op := .mov (.c (.int .i32 65533)) },
  { dst := some 3, op := .mov (.c (.int .i64 1)) }]
def v51_23 : VCode := (.seq (.region false r51_22) (.keep [2, 3] (.weak .ret)))
def v51_24 : VCode := (.keep [0, 5, 8, 9] (.weak .skip))
def v51_25 : VCode := (.cond (.t 45) v51_23 v51_24)
def v51_26 : VCode := (.seq (.region false r51_21) (.keep [0, 5, 8, 9, 45] (.weak v51_25)))
def r51_27 : List VOper := [
  { dst := some 46, op := .mov (.t 0) },
  { dst := some 47, op := .indexStr (.t 46) (.c (.int .i64 1)) },
  { dst := some 10, op := .mov (.t 47) }]
def r51_28 : List VOper := [
  { dst := some 48, op := .mov (.t 10) },
  { dst := some 49, op := .fieldAddr 0 (.t 9) },
  { dst := some 50, op := .load none (.t 49) },
  { dst := some 51, op := .bin .lss (.t 48) (.t 50) },
  { dst := some 52, op := .mov (.t 51) },
  { dst := some 53, op := .fieldAddr 1 (.t 9), guard := some (52, false) },
  { dst := some 54, op := .load none (.t 53), guard := some (52, false) },
  { dst := some 55, op := .mov (.t 10), guard := some (52, false) },
  { dst := some 56, op := .bin .lss (.t 54) (.t 55), guard := some (52, false) },
  { dst := some 57, op := .pick (.t 52) (.c (.bool true)) (.t 56) }]
def r51_29 : List VOper := [
  { dst := some 2, op := .mov (.c (.int .i32 65533)) },
  { dst := some 3, op := .mov (.c (.int .i64 1)) }]
def v51_30 : VCode := (.seq (.region false r51_29) (.keep [2, 3] (.weak .ret)))
def v51_31 : VCode := (.keep [0, 5, 8, 10] (.weak .skip))
def v51_32 : VCode := (.cond (.t 57) v51_30 v51_31)
def v51_33 : VCode := (.seq (.region false r51_28) (.keep [0, 5, 8, 10, 57] (.weak v51_32)))
def r51_34 : List VOper := [
  { dst := some 58, op := .mov (.t 8) },
  { dst := some 59, op := .bin .leq (.t 58) (.c (.int .i64 2)) }]
def r51_35 : List VOper := [
  { dst := some 60, op := .mov (.t 5) },
  { dst := some 61, op := .bin .and (.t 60) (.c (.int .u8 31)) },
  { dst := some 62, op := .conv .i32 (.t 61) },
  { dst := some 63, op := .bin .shl (.t 62) (.c (.int .u64 6)) },
  { dst := some 64, op := .mov (.t 10) },
  { dst := some 65, op := .bin .and (.t 64) (.c (.int .u8 63)) },
  { dst := some 66, op := .conv .i32 (.t 65) },
  { dst := some 67, op := .bin .or (.t 63) (.t 66) },
  { dst := some 2, op := .mov (.t 67) },
  { dst := some 3, op := .mov (.c (.int .i64 2)) }]
def v51_36 : VCode := (.seq (.region false r51_35) (.keep [2, 3] (.weak .ret)))
def v51_37 : VCode := (.keep [0, 5, 8, 10] (.weak .skip))
def v51_38 : VCode := (.cond (.t 59) v51_36 v51_37)
def v51_39 : VCode := (.seq (.region false r51_34) (.keep [0, 5, 8, 10, 59] (.weak v51_38)))
def r51_40 : List VOper := [
  { dst := some 68, op := .mov (.t 0) },
  { dst := some 69, op := .indexStr (.t 68) (.c (.int .i64 2)) },
  { dst := some 11, op := .mov (.t 69) }]
def r51_41 : List VOper := [
  { dst := some 70, op := .mov (.t 11) },
  { dst := some 71, op := .bin .lss (.t 70) (.c (.int .u8 128)) },
  { dst := some 72, op := .mov (.t 71) },
  { dst := some 73, op := .mov (.t 11), guard := some (72, false) },
  { dst := some 74, op := .bin .lss (.c (.int .u8 191)) (.t 73), guard := some (72, false) },
  { dst := some 75, op := .pick (.t 72) (.c (.bool true)) (.t 74) }]
def r51_42 : List VOper := [
  { dst := some 2, op := .mov (.c (.int .i32 65533)) },
  { dst := some 3, op := .mov (.c (.int .i64 1)) }]
def v51_43 : VCode := (.seq (.region false r51_42) (.keep [2, 3] (.weak .ret)))
def v51_44 : VCode := (.keep [0, 5, 8, 10, 11] (.weak .skip))
def v51_45 : VCode := (.cond (.t 75) v51_43 v51_44)
def v51_46 : VCode := (.seq (.region false r51_41) (.keep [0, 5, 8, 10, 11, 75] (.weak v51_45)))
def r51_47 : List VOper := [
  { dst := some 76, op := .mov (.t 8) },
  { dst := some 77, op := .bin .leq (.t 76) (.c (.int .i64 3)) }]
def r51_48 : List VOper := [
  { dst := some 78, op := .mov (.t 5) },
  { dst := some 79, op := .bin .and (.t 78) (.c (.int .u8 15)) },
  { dst := some 80, op := .conv .i32 (.t 79) },
  { dst := some 81, op := .bin .shl (.t 80) (.c (.int .u64 12)) },
  { dst := some 82, op := .mov (.t 10) },
  { dst := some 83, op := .bin .and (.t 82) (.c (.int .u8 63)) },
  { dst := some 84, op := .conv .i32 (.t 83) },
  { dst := some 85, op := .bin .shl (.t 84) (.c (.int .u64 6)) },
  { dst := some 86, op := .bin .or (.t 81) (.t 85) },
  { dst := some 87, op := .mov (.t 11) },
  { dst := some 88, op := .bin .and (.t 87) (.c (.int .u8 63)) },
  { dst := some 89, op := .conv .i32 (.t 88) },
  { dst := some 90, op := .bin .or (.t 86) (.t 89) },
  { dst := some 2, op := .mov (.t 90) },
  { dst := some 3, op := .mov (.c (.int .i64 3)) }]
def v51_49 : VCode := (.seq (.region false r51_48) (.keep [2, 3] (.weak .ret)))
def v51_50 : VCode := (.keep [0, 5, 10, 11] (.weak .skip))
def v51_51 : VCode := (.cond (.t 77) v51_49 v51_50)
def v51_52 : VCode := (.seq (.region false r51_47) (.keep [0, 5, 10, 11, 77] (.weak v51_51)))
def r51_53 : List VOper := [
  { dst := some 91, op := .mov (.t 0) },
  { dst := some 92, op := .indexStr (.t 91) (.c (.int .i64 3)) },
  { dst := some 12, op := .mov (.t 92) }]
def r51_54 : List VOper := [
  { dst := some 93, op := .mov (.t 12) },
  { dst := some 94, op := .bin .lss (.t 93) (.c (.int .u8 128)) },
  { dst := some 95, op := .mov (.t 94) },
  { dst := some 96, op := .mov (.t 12), guard := some (95, false) },
  { dst := some 97, op := .bin .lss (.c (.int .u8 191)) (.t 96), guard := some (95, false) },
  { dst := some 98, op := .pick (.t 95) (.c (.bool true)) (.t 97) }]
def r51_55 : List VOper := [
  { dst := some 2, op := .mov (.c (.int .i32 65533)) },
  { dst := some 3, op := .mov (.c (.int .i64 1)) }]
def v51_56 : VCode := (.seq (.region false r51_55) (.keep [2, 3] (.weak .ret)))
def v51_57 : VCode := (.keep [5, 10, 11, 12] (.weak .skip))
def v51_58 : VCode := (.cond (.t 98) v51_56 v51_57)
def v51_59 : VCode := (.seq (.region false r51_54) (.keep [5, 10, 11, 12, 98] (.weak v51_58)))
def r51_60 : List VOper := [
  { dst := some 99, op := .mov (.t 5) },
  { dst := some 100, op := .bin .and (.t 99) (.c (.int .u8 7)) },
  { dst := some 101, op := .conv .i32 (.t 100) },
  { dst := some 102, op := .bin .shl (.t 101) (.c (.int .u64 18)) },
  { dst := some 103, op := .mov (.t 10) },
  { dst := some 104, op := .bin .and (.t 103) (.c (.int .u8 63)) },
  { dst := some 105, op := .conv .i32 (.t 104) },
  { dst := some 106, op := .bin .shl (.t 105) (.c (.int .u64 12)) },
  { dst := some 107, op := .bin .or (.t 102) (.t 106) },
  { dst := some 108, op := .mov (.t 11) },
  { dst := some 109, op := .bin .and (.t 108) (.c (.int .u8 63)) },
  { dst := some 110, op := .conv .i32 (.t 109) },
  { dst := some 111, op := .bin .shl (.t 110) (.c (.int .u64 6)) },
  { dst := some 112, op := .bin .or (.t 107) (.t 111) },
  { dst := some 113, op := .mov (.t 12) },
  { dst := some 114, op := .bin .and (.t 113) (.c (.int .u8 63)) },
  { dst := some 115, op := .conv .i32 (.t 114) },
  { dst := some 116, op := .bin .or (.t 112) (.t 115) },
  { dst := some 2, op := .mov (.t 116) },
  { dst := some 3, op := .mov (.c (.int .i64 4)) }]
def v51_61 : VCode := (.seq (.region false r51_60) (.keep [2, 3] (.weak .ret)))
def v51_62 : VCode := (.seq v51_59 v51_61)
def v51_63 : VCode := (.seq (.region false r51_53) (.keep [5, 10, 11, 12] (.weak v51_62)))
def v51_64 : VCode := (.seq v51_52 v51_63)
def v51_65 : VCode := (.seq v51_46 v51_64)
def v51_66 : VCode := (.seq (.region false r51_40) (.keep [0, 5, 8, 10, 11] (.weak v51_65)))
def v51_67 : VCode := (.seq v51_39 v51_66)
def v51_68 : VCode := (.seq v51_33 v51_67)
def v51_69 : VCode := (.seq (.region false r51_27) (.keep [0, 5, 8, 9, 10] (.weak v51_68)))
def v51_70 : VCode := (.seq v51_26 v51_69)
def v51_71 : VCode := (.seq (.region false r51_20) (.keep [0, 4, 5, 8, 9] (.weak v51_70)))
def v51_72 : VCode := (.seq (.region false r51_19) (.keep [0, 4, 5, 6, 8] (.weak v51_71)))
def v51_73 : VCode := (.seq v51_18 v51_72)
def v51_74 : VCode := (.seq (.region false r51_10) (.keep [0, 4, 5, 6] (.weak v51_73)))
def v51_75 : VCode := (.seq (.region false r51_9) (.keep [0, 4, 5] (.weak v51_74)))
def v51_76 : VCode := (.seq v51_8 v51_75)
def v51_77 : VCode := (.seq (.region false r51_2) (.keep [0, 4] (.weak v51_76)))
def v51 : VCode := (.seq (.region false r51_1) (.keep [0] (.weak v51_77)))
theorem hv51 : codeOf Tryd.prog Tryd.f51.ntmps v51 (Tryd.f51.body.getD .skip) = some v51 := by kernel_rfl
theorem ok51 {ds : List PV} {r : PV} {fl : Bool} (h : vwp Tryd.prog v51 (retQ [(2, none), (3, none)] r fl) (initSt ds)) : CallOK Tryd.prog 51 ds r fl :=
  fn_ok Tryd.func51 rfl (by decide) hv51 rfl mixed h

/- unicode_utf8_DecodeRuneInString -/
def r46_1 : List VOper := [
  { dst := some 2, op := .mov (.c (.int .i32 0)) },
  { dst := some 3, op := .mov (.c (.int .i64 0)) }]
def r46_2 : List VOper := [
  { dst := some 4, op := .mov (.t 0) },
  { dst := some 5, op := .bin .neq (.t 4) (.c (.str [])) },
  { dst := some 6, op := .mov (.t 5) },
  { dst := some 7, op := .mov (.t 0), guard := some (6, true) },
  { dst := some 8, op := .indexStr (.t 7) (.c (.int .i64 0)), guard := some (6, true) },
  { dst := some 9, op := .bin .lss (.t 8) (.c (.int .u8 128)), guard := some (6, true) },
  { dst := some 10, op := .pick (.t 6) (.t 9) (.c (.bool false)) }]
def r46_3 : List VOper := [
  { dst := some 11, op := .mov (.t 0) },
  { dst := some 12, op := .indexStr (.t 11) (.c (.int .i64 0)) },
  { dst := some 13, op := .conv .i32 (.t 12) },
  { dst := some 2, op := .mov (.t 13) },
  { dst := some 3, op := .mov (.c (.int .i64 1)) }]
def v46_4 : VCode := (.seq (.region false r46_3) (.keep [2, 3] (.weak .ret)))
def r46_5 : List VOper := [
  { dst := some 15, op := .mov (.t 0) },
  { dst := some 16, op := .call 51 [(.t 15)] },
  { dst := some 14, op := .mov (.t 16) },
  { dst := some 17, op := .extract (.t 14) 0 },
  { dst := some 18, op := .extract (.t 14) 1 },
  { dst := some 2, op := .mov (.t 17) },
  { dst := some 3, op := .mov (.t 18) }]
def v46_6 : VCode := (.post [2, 3] (.region false r46_5))
def v46_7 : VCode := (.cond (.t 10) v46_4 v46_6)
def v46_8 : VCode := (.seq (.region false r46_2) (.keep [0, 10] (.weak v46_7)))
def v46_9 : VCode := (.seq v46_8 .ret)
def v46 : VCode := (.seq (.region false r46_1) (.keep [0] (.weak v46_9)))
theorem hv46 : codeOf Tryd.prog Tryd.f46.ntmps v46 (Tryd.f46.body.getD .skip) = some v46 := by kernel_rfl
theorem ok46 {ds : List PV} {r : PV} {fl : Bool} (h : vwp Tryd.prog v46 (retQ [(2, none), (3, none)] r fl) (initSt ds)) : CallOK Tryd.prog 46 ds r fl :=
  fn_ok Tryd.func46 rfl (by decide) hv46 rfl mixed h

/- strings_explode -/
def r40_1 : List VOper := [
  { dst := some 4, op := .mov (.c (.nilsl)) }]
def r40_2 : List VOper := [
  { dst := some 10, op := .mov (.t 0) },
  { dst := some 11, op := .call 45 [(.t 10)] },
  { dst := some 5, op := .mov (.t 11) }]
def r40_3 : List VOper := [
  { dst := some 12, op := .mov (.t 1) },
  { dst := some 13, op := .bin .lss (.t 12) (.c (.int .i64 0)) },
  { dst := some 14, op := .mov (.t 13) },
  { dst := some 15, op := .mov (.t 1), guard := some (14, false) },
  { dst := some 16, op := .mov (.t 5), guard := some (14, false) },
  { dst := some 17, op := .bin .gtr (.t 15) (.t 16), guard := some (14, false) },
  { dst := some 18, op := .pick (.t 14) (.c (.bool true)) (.t 17) }]
def r40_4 : List VOper := [
  { dst := some 19, op := .mov (.t 5) },
  { dst := some 1, op := .mov (.t 19) }]
def v40_5 : VCode := (.post [0, 1] (.region false r40_4))
def v40_6 : VCode := (.keep [0, 1] (.weak .skip))
def v40_7 : VCode := (.cond (.t 18) v40_5 v40_6)
def v40_8 : VCode := (.seq (.region false r40_3) (.keep [0, 1, 5, 18] (.weak v40_7)))
def r40_9 : List VOper := [
  { dst := some 20, op := .mov (.t 1) },
  { dst := some 21, op := .makeSlice none 16 (.str []) (.t 20) (.t 20) },
  { dst := some 6, op := .mov (.t 21) }]
def r40_10 : List VOper := [
  { dst := some 7, op := .mov (.c (.int .i64 0)) }]
def r40_11 : List VOper := [
  { dst := some 22, op := .mov (.t 7) },
  { dst := some 23, op := .mov (.t 1) },
  { dst := some 24, op := .bin .sub (.t 23) (.c (.int .i64 1)) },
  { dst := some 25, op := .bin .lss (.t 22) (.t 24) }]
def v40_12 : VCode := (.keep [0, 1, 6, 7] (.weak .skip))
def v40_13 : VCode := (.keep [0, 1, 6] (.weak (.exit 0)))
def v40_14 : VCode := (.cond (.t 25) v40_12 v40_13)
def v40_15 : VCode := (.seq (.region false r40_11) (.keep [0, 1, 6, 7, 25] (.weak v40_14)))
def r40_16 : List VOper := [
  { dst := some 29, op := .mov (.t 0) },
  { dst := some 30, op := .call 46 [(.t 29)] },
  { dst := some 28, op := .mov (.t 30) },
  { dst := some 31, op := .extract (.t 28) 0 },
  { dst := some 32, op := .extract (.t 28) 1 },
  { dst := some 8, op := .mov (.t 31) },
  { dst := some 9, op := .mov (.t 32) }]
def r40_17 : List VOper := [
  { dst := some 33, op := .mov (.t 6) },
  { dst := some 34, op := .mov (.t 7) },
  { dst := some 35, op := .mov (.t 0) },
  { dst := some 36, op := .mov (.t 9) },
  { dst := some 37, op := .slStr (.t 35) none (some (.t 36)) },
  { dst := some 38, op := .indexAddr none (.t 33) (.t 34) },
  { dst := none, op := .store none (.t 38) (.t 37) }]
def r40_18 : List VOper := [
  { dst := some 39, op := .mov (.t 0) },
  { dst := some 40, op := .mov (.t 9) },
  { dst := some 41, op := .slStr (.t 39) (some (.t 40)) none },
  { dst := some 0, op := .mov (.t 41) }]
def v40_19 : VCode := (.post [0, 1, 6, 7] (.region false r40_18))
def v40_20 : VCode := (.seq (.region false r40_17) (.keep [0, 1, 6, 7, 9] (.weak v40_19)))
def v40_21 : VCode := (.seq (.region false r40_16) (.keep [0, 1, 6, 7, 9] (.weak v40_20)))
def v40_22 : VCode := (.block 1 v40_21)
def r40_23 : List VOper := [
  { dst := some 26, op := .mov (.t 7) },
  { dst := some 27, op := .bin .add (.t 26) (.c (.int .i64 1)) },
  { dst := some 7, op := .mov (.t 27) }]
def v40_24 : VCode := (.post [0, 1, 6, 7] (.region false r40_23))
def v40_25 : VCode := (.seq v40_22 v40_24)
def v40_26 : VCode := (.seq v40_15 v40_25)
def v40_27 : VCode := (.loop [0, 1, 6, 7] v40_26)
def v40_28 : VCode := (.keep [0, 1, 6, 7] (.weak v40_27))
def v40_29 : VCode := (.block 0 v40_28)
def v40_30 : VCode := (.seq (.region false r40_10) (.keep [0, 1, 6, 7] (.weak v40_29)))
def r40_31 : List VOper := [
  { dst := some 42, op := .mov (.t 1) },
  { dst := some 43, op := .bin .gtr (.t 42) (.c (.int .i64 0)) }]
def r40_32 : List VOper := [
  { dst := some 44, op := .mov (.t 6) },
  { dst := some 45, op := .mov (.t 1) },
  { dst := some 46, op := .bin .sub (.t 45) (.c (.int .i64 1)) },
  { dst := some 47, op := .mov (.t 0) },
  { dst := some 48, op := .indexAddr none (.t 44) (.t 46) },
  { dst := none, op := .store none (.t 48) (.t 47) }]
def v40_33 : VCode := (.post [6] (.region false r40_32))
def v40_34 : VCode := (.keep [6] (.weak .skip))
def v40_35 : VCode := (.cond (.t 43) v40_33 v40_34)
def v40_36 : VCode := (.seq (.region false r40_31) (.keep [0, 1, 6, 43] (.weak v40_35)))
def r40_37 : List VOper := [
  { dst := some 49, op := .mov (.t 6) },
  { dst := some 4, op := .mov (.t 49) }]
def v40_38 : VCode := (.seq (.region false r40_37) (.keep [4] (.weak .ret)))
def v40_39 : VCode := (.seq v40_36 v40_38)
def v40_40 : VCode := (.seq v40_30 v40_39)
def v40_41 : VCode := (.seq (.region false r40_9) (.keep [0, 1, 6] (.weak v40_40)))
def v40_42 : VCode := (.seq v40_8 v40_41)
def v40_43 : VCode := (.seq (.region false r40_2) (.keep [0, 1, 5] (.weak v40_42)))
def v40 : VCode := (.seq (.region false r40_1) (.keep [0, 1] (.weak v40_43)))
theorem hv40 : codeOf Tryd.prog Tryd.f40.ntmps v40 (Tryd.f40.body.getD .skip) = some v40 := by kernel_rfl
theorem ok40 {ds : List PV} {r : PV} {fl : Bool} (h : vwp Tryd.prog v40 (retQ [(4, none)] r fl) (initSt ds)) : CallOK Tryd.prog 40 ds r fl :=
  fn_ok Tryd.func40 rfl (by decide) hv40 rfl mixed h

/- strings_genSplit -/
def r35_1 : List VOper := [
  { dst := some 8, op := .mov (.c (.nilsl)) }]
def r35_2 : List VOper := [
  { dst := some 12, op := .mov (.t 3) },
  { dst := some 13, op := .bin .eql (.t 12) (.c (.int .i64 0)) }]
def r35_3 : List VOper := [
  { dst := some 8, op := .mov (.c (.nilsl)) }]
def v35_4 : VCode := (.seq (.region false r35_3) (.keep [8] (.weak .ret)))
def v35_5 : VCode := (.keep [0, 1, 2, 3] (.weak .skip))
def v35_6 : VCode := (.cond (.t 13) v35_4 v35_5)
def v35_7 : VCode := (.seq (.region false r35_2) (.keep [0, 1, 2, 3, 13] (.weak v35_6)))
def r35_8 : List VOper := [
  { dst := some 14, op := .mov (.t 1) },
  { dst := some 15, op := .bin .eql (.t 14) (.c (.str [])) }]
def r35_9 : List VOper := [
  { dst := some 16, op := .mov (.t 0) },
  { dst := some 17, op := .mov (.t 3) },
  { dst := some 18, op := .call 40 [(.t 16), (.t 17)] },
  { dst := some 8, op := .mov (.t 18) }]
def v35_10 : VCode := (.seq (.region false r35_9) (.keep [8] (.weak .ret)))
def v35_11 : VCode := (.keep [0, 1, 2, 3] (.weak .skip))
def v35_12 : VCode := (.cond (.t 15) v35_10 v35_11)
def v35_13 : VCode := (.seq (.region false r35_8) (.keep [0, 1, 2, 3, 15] (.weak v35_12)))
def r35_14 : List VOper := [
  { dst := some 19, op := .mov (.t 3) },
  { dst := some 20, op := .bin .lss (.t 19) (.c (.int .i64 0)) }]
def r35_15 : List VOper := [
  { dst := some 21, op := .mov (.t 0) },
  { dst := some 22, op := .mov (.t 1) },
  { dst := some 23, op := .call 41 [(.t 21), (.t 22)] },
  { dst := some 24, op := .bin .add (.t 23) (.c (.int .i64 1)) },
  { dst := some 3, op := .mov (.t 24) }]
def v35_16 : VCode := (.post [0, 1, 2, 3] (.region false r35_15))
def v35_17 : VCode := (.keep [0, 1, 2, 3] (.weak .skip))
def v35_18 : VCode := (.cond (.t 20) v35_16 v35_17)
def v35_19 : VCode := (.seq (.region false r35_14) (.keep [0, 1, 2, 3, 20] (.weak v35_18)))
def r35_20 : List VOper := [
  { dst := some 25, op := .mov (.t 3) },
  { dst := some 26, op := .mov (.t 0) },
  { dst := some 27, op := .lenStr (.t 26) },
  { dst := some 28, op := .bin .add (.t 27) (.c (.int .i64 1)) },
  { dst := some 29, op := .minmax false [(.t 25), (.t 28)] },
  { dst := some 3, op := .mov (.t 29) }]
def r35_21 : List VOper := [
  { dst := some 30, op := .mov (.t 3) },
  { dst := some 31, op := .makeSlice none 16 (.str []) (.t 30) (.t 30) },
  { dst := some 9, op := .mov (.t 31) }]
def r35_22 : List VOper := [
  { dst := some 32, op := .mov (.t 3) },
  { dst := some 33, op := .bin .sub (.t 32) (.c (.int .i64 1)) },
  { dst := some 3, op := .mov (.t 33) }]
def r35_23 : List VOper := [
  { dst := some 10, op := .mov (.c (.int .i64 0)) }]
def r35_24 : List VOper := [
  { dst := some 34, op := .mov (.t 10) },
  { dst := some 35, op := .mov (.t 3) },
  { dst := some 36, op := .bin .lss (.t 34) (.t 35) }]
def v35_25 : VCode := (.keep [0, 1, 2, 3, 9, 10] (.weak .skip))
def v35_26 : VCode := (.keep [0, 9, 10] (.weak (.exit 0)))
def v35_27 : VCode := (.cond (.t 36) v35_25 v35_26)
def v35_28 : VCode := (.seq (.region false r35_24) (.keep [0, 1, 2, 3, 9, 10, 36] (.weak v35_27)))
def r35_29 : List VOper := [
  { dst := some 37, op := .mov (.t 0) },
  { dst := some 38, op := .mov (.t 1) },
  { dst := some 39, op := .call 42 [(.t 37), (.t 38)] },
  { dst := some 11, op := .mov (.t 39) }]
def r35_30 : List VOper := [
  { dst := some 40, op := .mov (.t 11) },
  { dst := some 41, op := .bin .lss (.t 40) (.c (.int .i64 0)) }]
def v35_31 : VCode := (.keep [0, 9, 10] (.weak (.exit 0)))
def v35_32 : VCode := (.keep [0, 1, 2, 3, 9, 10, 11] (.weak .skip))
def v35_33 : VCode := (.cond (.t 41) v35_31 v35_32)
def v35_34 : VCode := (.seq (.region false r35_30) (.keep [0, 1, 2, 3, 9, 10, 11, 41] (.weak v35_33)))
def r35_35 : List VOper := [
  { dst := some 42, op := .mov (.t 9) },
  { dst := some 43, op := .mov (.t 10) },
  { dst := some 44, op := .mov (.t 0) },
  { dst := some 45, op := .mov (.t 11) },
  { dst := some 46, op := .mov (.t 2) },
  { dst := some 47, op := .bin .add (.t 45) (.t 46) },
  { dst := some 48, op := .slStr (.t 44) none (some (.t 47)) },
  { dst := some 49, op := .indexAddr none (.t 42) (.t 43) },
  { dst := none, op := .store none (.t 49) (.t 48) }]
def r35_36 : List VOper := [
  { dst := some 50, op := .mov (.t 0) },
  { dst := some 51, op := .mov (.t 11) },
  { dst := some 52, op := .mov (.t 1) },
  { dst := some 53, op := .lenStr (.t 52) },
  { dst := some 54, op := .bin .add (.t 51) (.t 53) },
  { dst := some 55, op := .slStr (.t 50) (some (.t 54)) none },
  { dst := some 0, op := .mov (.t 55) }]
def r35_37 : List VOper := [
  { dst := some 56, op := .mov (.t 10) },
  { dst := some 57, op := .bin .add (.t 56) (.c (.int .i64 1)) },
  { dst := some 10, op := .mov (.t 57) }]
def v35_38 : VCode := (.post [0, 1, 2, 3, 9, 10] (.region false r35_37))
def v35_39 : VCode := (.seq (.region false r35_36) (.keep [0, 1, 2, 3, 9, 10] (.weak v35_38)))
def v35_40 : VCode := (.seq (.region false r35_35) (.keep [0, 1, 2, 3, 9, 10, 11] (.weak v35_39)))
def v35_41 : VCode := (.seq v35_34 v35_40)
def v35_42 : VCode := (.seq (.region false r35_29) (.keep [0, 1, 2, 3, 9, 10, 11] (.weak v35_41)))
def v35_43 : VCode := (.block 1 v35_42)
def v35_44 : VCode := (.seq v35_28 v35_43)
def v35_45 : VCode := (.loop [0, 1, 2, 3, 9, 10] v35_44)
def v35_46 : VCode := (.keep [0, 1, 2, 3, 9, 10] (.weak v35_45))
def v35_47 : VCode := (.block 0 v35_46)
def r35_48 : List VOper := [
  { dst := some 58, op := .mov (.t 9) },
  { dst := some 59, op := .mov (.t 10) },
  { dst := some 60, op := .mov (.t 0) },
  { dst := some 61, op := .indexAddr none (.t 58) (.t 59) },
  { dst := none, op := .store none (.t 61) (.t 60) }]
def r35_49 : List VOper := [
  { dst := some 62, op := .mov (.t 9) },
  { dst := some 63, op := .mov (.t 10) },
  { dst := some 64, op := .bin .add (.t 63) (.c (.int .i64 1)) },
  { dst := some 65, op := .slSl none (.t 62) none (some (.t 64)) },
  { dst := some 8, op := .mov (.t 65) }]
def v35_50 : VCode := (.seq (.region false r35_49) (.keep [8] (.weak .ret)))
def v35_51 : VCode := (.seq (.region false r35_48) (.keep [9, 10] (.weak v35_50)))
def v35_52 : VCode := (.seq v35_47 v35_51)
def v35_53 : VCode := (.seq (.region false r35_23) (.keep [0, 1, 2, 3, 9, 10] (.weak v35_52)))
def v35_54 : VCode := (.seq (.region false r35_22) (.keep [0, 1, 2, 3, 9] (.weak v35_53)))
def v35_55 : VCode := (.seq (.region false r35_21) (.keep [0, 1, 2, 3, 9] (.weak v35_54)))
def v35_56 : VCode := (.seq (.region false r35_20) (.keep [0, 1, 2, 3] (.weak v35_55)))
def v35_57 : VCode := (.seq v35_19 v35_56)
def v35_58 : VCode := (.seq v35_13 v35_57)
def v35_59 : VCode := (.seq v35_7 v35_58)
def v35 : VCode := (.seq (.region false r35_1) (.keep [0, 1, 2, 3] (.weak v35_59)))
theorem hv35 : codeOf Tryd.prog Tryd.f35.ntmps v35 (Tryd.f35.body.getD .skip) = some v35 := by kernel_rfl
theorem ok35 {ds : List PV} {r : PV} {fl : Bool} (h : vwp Tryd.prog v35 (retQ [(8, none)] r fl) (initSt ds)) : CallOK Tryd.prog 35 ds r fl :=
  fn_ok Tryd.func35 rfl (by decide) hv35 rfl mixed h

/- strings_Split -/
def r32_1 : List VOper := [
  { dst := some 4, op := .mov (.c (.nilsl)) }]
def r32_2 : List VOper := [
  { dst := some 5, op := .mov (.t 0) },
  { dst := some 6, op := .mov (.t 1) },
  { dst := some 7, op := .call 35 [(.t 5), (.t 6), (.c (.int .i64 0)), (.c (.int .i64 (-1)))] },
  { dst := some 4, op := .mov (.t 7) }]
def v32_3 : VCode := (.seq (.region false r32_2) (.keep [4] (.weak .ret)))
def v32 : VCode := (.seq (.region false r32_1) (.keep [0, 1] (.weak v32_3)))
theorem hv32 : codeOf Tryd.prog Tryd.f32.ntmps v32 (Tryd.f32.body.getD .skip) = some v32 := by kernel_rfl
theorem ok32 {ds : List PV} {r : PV} {fl : Bool} (h : vwp Tryd.prog v32 (retQ [(4, none)] r fl) (initSt ds)) : CallOK Tryd.prog 32 ds r fl :=
  fn_ok Tryd.func32 rfl (by decide) hv32 rfl mixed h

/- stringslite_HasPrefix -/
def r39_1 : List VOper := [
  { dst := some 4, op := .mov (.c (.bool false)) }]
def r39_2 : List VOper := [
  { dst := some 5, op := .mov (.t 0) },
  { dst := some 6, op := .lenStr (.t 5) },
  { dst := some 7, op := .mov (.t 1) },
  { dst := some 8, op := .lenStr (.t 7) },
  { dst := some 9, op := .bin .geq (.t 6) (.t 8) },
  { dst := some 10, op := .mov (.t 9) },
  { dst := some 11, op := .mov (.t 0), guard := some (10, true) },
  { dst := some 12, op := .mov (.t 1), guard := some (10, true) },
  { dst := some 13, op := .lenStr (.t 12), guard := some (10, true) },
  { dst := some 14, op := .slStr (.t 11) none (some (.t 13)), guard := some (10, true) },
  { dst := some 15, op := .mov (.t 1), guard := some (10, true) },
  { dst := some 16, op := .bin .eql (.t 14) (.t 15), guard := some (10, true) },
  { dst := some 17, op := .pick (.t 10) (.t 16) (.c (.bool false)) },
  { dst := some 4, op := .mov (.t 17) }]
def v39_3 : VCode := (.seq (.region false r39_2) (.keep [4] (.weak .ret)))
def v39 : VCode := (.seq (.region false r39_1) (.keep [0, 1] (.weak v39_3)))
theorem hv39 : codeOf Tryd.prog Tryd.f39.ntmps v39 (Tryd.f39.body.getD .skip) = some v39 := by kernel_rfl
theorem ok39 {ds : List PV} {r : PV} {fl : Bool} (h : vwp Tryd.prog v39 (retQ [(4, none)] r fl) (initSt ds)) : CallOK Tryd.prog 39 ds r fl :=
  fn_ok Tryd.func39 rfl (by decide) hv39 rfl mixed h

/- strings_HasPrefix -/
def r34_1 : List VOper := [
  { dst := some 4, op := .mov (.c (.bool false)) }]
def r34_2 : List VOper := [
  { dst := some 5, op := .mov (.t 0) },
  { dst := some 6, op := .mov (.t 1) },
  { dst := some 7, op := .call 39 [(.t 5), (.t 6)] },
  { dst := some 4, op := .mov (.t 7) }]
def v34_3 : VCode := (.seq (.region false r34_2) (.keep [4] (.weak .ret)))
def v34 : VCode := (.seq (.region false r34_1) (.keep [0, 1] (.weak v34_3)))
theorem hv34 : codeOf Tryd.prog Tryd.f34.ntmps v34 (Tryd.f34.body.getD .skip) = some v34 := by kernel_rfl
theorem ok34 {ds : List PV} {r : PV} {fl : Bool} (h : vwp Tryd.prog v34 (retQ [(4, none)] r fl) (initSt ds)) : CallOK Tryd.prog 34 ds r fl :=
  fn_ok Tryd.func34 rfl (by decide) hv34 rfl mixed h

/- path_rooted -/
def r31_1 : List VOper := [
  { dst := some 2, op := .mov (.c (.bool false)) }]
def r31_2 : List VOper := [
  { dst := some 3, op := .mov (.t 0) },
  { dst := some 4, op := .call 34 [(.t 3), (.c (.str [47]))] },
  { dst := some 2, op := .mov (.t 4) }]
def v31_3 : VCode := (.seq (.region false r31_2) (.keep [2] (.weak .ret)))
def v31 : VCode := (.seq (.region false r31_1) (.keep [0] (.weak v31_3)))
theorem hv31 : codeOf Tryd.prog Tryd.f31.ntmps v31 (Tryd.f31.body.getD .skip) = some v31 := by kernel_rfl
theorem ok31 {ds : List PV} {r : PV} {fl : Bool} (h : vwp Tryd.prog v31 (retQ [(2, none)] r fl) (initSt ds)) : CallOK Tryd.prog 31 ds r fl :=
  fn_ok Tryd.func31 rfl (by decide) hv31 rfl mixed h

/- path_Valid -/
def r12_1 : List VOper := [
  { dst := some 2, op := .mov (.c (.bool false)) }]
def r12_2 : List VOper := [
  { dst := some 4, op := .mov (.t 0) },
  { dst := some 5, op := .bin .eql (.t 4) (.c (.str [])) },
  { dst := some 6, op := .mov (.t 5) },
  { dst := some 7, op := .mov (.t 0), guard := some (6, false) },
  { dst := some 8, op := .bin .eql (.t 7) (.c (.str [46])), guard := some (6, false) },
  { dst := some 9, op := .pick (.t 6) (.c (.bool true)) (.t 8) },
  { dst := some 10, op := .mov (.t 9) },
  { dst := some 11, op := .mov (.t 0), guard := some (10, false) },
  { dst := some 12, op := .bin .eql (.t 11) (.c (.str [46, 46])), guard := some (10, false) },
  { dst := some 13, op := .pick (.t 10) (.c (.bool true)) (.t 12) },
  { dst := some 14, op := .mov (.t 13) },
  { dst := some 15, op := .mov (.t 0), guard := some (14, false) },
  { dst := some 16, op := .lenStr (.t 15), guard := some (14, false) },
  { dst := some 17, op := .bin .gtr (.t 16) (.c (.int .i64 64)), guard := some (14, false) },
  { dst := some 18, op := .pick (.t 14) (.c (.bool true)) (.t 17) }]
def r12_3 : List VOper := [
  { dst := some 2, op := .mov (.c (.bool false)) }]
def v12_4 : VCode := (.seq (.region false r12_3) (.keep [2] (.weak .ret)))
def v12_5 : VCode := (.keep [0] (.weak .skip))
def v12_6 : VCode := (.cond (.t 18) v12_4 v12_5)
def v12_7 : VCode := (.seq (.region false r12_2) (.keep [0, 18] (.weak v12_6)))
def r12_8 : List VOper := [
  { dst := some 19, op := .mov (.t 0) },
  { dst := some 20, op := .lenStr (.t 19) },
  { dst := some 21, op := .mov (.c (.int .i64 0)) }]
def r12_9 : List VOper := [
  { dst := some 22, op := .bin .lss (.t 21) (.t 20) }]
def v12_10 : VCode := (.keep [0, 20, 21] (.weak .skip))
def v12_11 : VCode := (.keep [] (.weak (.exit 0)))
def v12_12 : VCode := (.cond (.t 22) v12_10 v12_11)
def r12_13 : List VOper := [
  { dst := some 23, op := .mov (.t 21) },
  { dst := some 3, op := .mov (.t 23) }]
def r12_14 : List VOper := [
  { dst := some 24, op := .mov (.t 0) },
  { dst := some 25, op := .mov (.t 3) },
  { dst := some 26, op := .indexStr (.t 24) (.t 25) },
  { dst := some 27, op := .bin .lss (.t 26) (.c (.int .u8 33)) },
  { dst := some 28, op := .mov (.t 27) },
  { dst := some 29, op := .mov (.t 0), guard := some (28, false) },
  { dst := some 30, op := .mov (.t 3), guard := some (28, false) },
  { dst := some 31, op := .indexStr (.t 29) (.t 30), guard := some (28, false) },
  { dst := some 32, op := .bin .gtr (.t 31) (.c (.int .u8 126)), guard := some (28, false) },
  { dst := some 33, op := .pick (.t 28) (.c (.bool true)) (.t 32) },
  { dst := some 34, op := .mov (.t 33) },
  { dst := some 35, op := .mov (.t 0), guard := some (34, false) },
  { dst := some 36, op := .mov (.t 3), guard := some (34, false) },
  { dst := some 37, op := .indexStr (.t 35) (.t 36), guard := some (34, false) },
  { dst := some 38, op := .bin .eql (.t 37) (.c (.int .u8 47)), guard := some (34, false) },
  { dst := some 39, op := .pick (.t 34) (.c (.bool true)) (.t 38) }]
def r12_15 : List VOper := [
  { dst := some 2, op := .mov (.c (.bool false)) }]
def v12_16 : VCode := (.seq (.region false r12_15) (.keep [2] (.weak .ret)))
def v12_17 : VCode := (.keep [0, 20, 21] (.weak .skip))
def v12_18 : VCode := (.cond (.t 39) v12_16 v12_17)
def v12_19 : VCode := (.seq (.region false r12_14) (.keep [0, 20, 21, 39] (.weak v12_18)))
def v12_20 : VCode := (.seq (.region false r12_13) (.keep [0, 3, 20, 21] (.weak v12_19)))
def v12_21 : VCode := (.block 1 v12_20)
def r12_22 : List VOper := [
  { dst := some 40, op := .bin .add (.t 21) (.c (.int .i64 1)) },
  { dst := some 21, op := .mov (.t 40) }]
def v12_23 : VCode := (.post [0, 20, 21] (.region false r12_22))
def v12_24 : VCode := (.seq v12_21 v12_23)
def v12_25 : VCode := (.seq v12_12 v12_24)
def v12_26 : VCode := (.seq (.region false r12_9) (.keep [0, 20, 21, 22] (.weak v12_25)))
def v12_27 : VCode := (.loop [0, 20, 21] v12_26)
def v12_28 : VCode := (.keep [0, 20, 21] (.weak v12_27))
def v12_29 : VCode := (.block 0 v12_28)
def v12_30 : VCode := (.seq (.region false r12_8) (.keep [0, 20, 21] (.weak v12_29)))
def r12_31 : List VOper := [
  { dst := some 2, op := .mov (.c (.bool true)) }]
def v12_32 : VCode := (.seq (.region false r12_31) (.keep [2] (.weak .ret)))
def v12_33 : VCode := (.seq v12_30 v12_32)
def v12_34 : VCode := (.seq v12_7 v12_33)
def v12 : VCode := (.seq (.region false r12_1) (.keep [0] (.weak v12_34)))
theorem hv12 : codeOf Tryd.prog Tryd.f12.ntmps v12 (Tryd.f12.body.getD .skip) = some v12 := by kernel_rfl
theorem ok12 {ds : List PV} {r : PV} {fl : Bool} (h : vwp Tryd.prog v12 (retQ [(2, none)] r fl) (initSt ds)) : CallOK Tryd.prog 12 ds r fl :=
  fn_ok Tryd.func12 rfl (by decide) hv12 rfl mixed h

/- path_Split -/
def r16_1 : List VOper := [
  { dst := some 2, op := .mov (.c (.nilsl)) },
  { dst := some 3, op := .mov (.c (.int .i64 0)) }]
def r16_2 : List VOper := [
  { dst := some 8, op := .mov (.t 0) },
  { dst := some 9, op := .lenStr (.t 8) },
  { dst := some 10, op := .bin .gtr (.t 9) (.c (.int .i64 1024)) }]
def r16_3 : List VOper := [
  { dst := some 2, op := .mov (.c (.nilsl)) },
  { dst := some 3, op := .mov (.c (.int .i64 4)) }]
def v16_4 : VCode := (.seq (.region false r16_3) (.keep [2, 3] (.weak .ret)))
def v16_5 : VCode := (.keep [0] (.weak .skip))
def v16_6 : VCode := (.cond (.t 10) v16_4 v16_5)
def v16_7 : VCode := (.seq (.region false r16_2) (.keep [0, 10] (.weak v16_6)))
def r16_8 : List VOper := [
  { dst := some 4, op := .mov (.c (.nilsl)) }]
def r16_9 : List VOper := [
  { dst := some 11, op := .mov (.t 0) },
  { dst := some 12, op := .call 32 [(.t 11), (.c (.str [47]))] },
  { dst := some 13, op := .lenSl (.t 12) },
  { dst := some 14, op := .mov (.c (.int .i64 0)) }]
def r16_10 : List VOper := [
  { dst := some 15, op := .bin .lss (.t 14) (.t 13) }]
def v16_11 : VCode := (.keep [0, 4, 12, 13, 14] (.weak .skip))
def v16_12 : VCode := (.keep [4] (.weak (.exit 0)))
def v16_13 : VCode := (.cond (.t 15) v16_11 v16_12)
def r16_14 : List VOper := [
  { dst := some 16, op := .indexAddr none (.t 12) (.t 14) },
  { dst := some 17, op := .load none (.t 16) },
  { dst := some 6, op := .mov (.t 17) }]
def r16_15 : List VOper := [
  { dst := some 18, op := .mov (.t 4) },
  { dst := some 19, op := .lenSl (.t 18) },
  { dst := some 20, op := .bin .sub (.t 19) (.c (.int .i64 1)) },
  { dst := some 7, op := .mov (.t 20) }]
def r16_16 : List VOper := [
  { dst := some 26, op := .mov (.t 6) },
  { dst := some 27, op := .bin .eql (.t 26) (.c (.str [])) },
  { dst := some 28, op := .mov (.t 27) },
  { dst := some 29, op := .mov (.t 6), guard := some (28, false) },
  { dst := some 30, op := .bin .eql (.t 29) (.c (.str [46])), guard := some (28, false) },
  { dst := some 31, op := .pick (.t 28) (.c (.bool true)) (.t 30) },
  { dst := some 25, op := .mov (.t 31) }]
def v16_17 : VCode := (.keep [0, 4, 12, 13, 14] (.weak .skip))
def r16_18 : List VOper := [
  { dst := some 33, op := .mov (.t 6) },
  { dst := some 34, op := .bin .eql (.t 33) (.c (.str [46, 46])) },
  { dst := some 35, op := .mov (.t 34) },
  { dst := some 36, op := .mov (.t 7), guard := some (35, true) },
  { dst := some 37, op := .bin .geq (.t 36) (.c (.int .i64 0)), guard := some (35, true) },
  { dst := some 38, op := .pick (.t 35) (.t 37) (.c (.bool false)) },
  { dst := some 39, op := .mov (.t 38) },
  { dst := some 40, op := .mov (.t 4), guard := some (39, true) },
  { dst := some 41, op := .mov (.t 7), guard := some (39, true) },
  { dst := some 42, op := .indexAddr none (.t 40) (.t 41), guard := some (39, true) },
  { dst := some 43, op := .load none (.t 42), guard := some (39, true) },
  { dst := some 44, op := .bin .neq (.t 43) (.c (.str [46, 46])), guard := some (39, true) },
  { dst := some 45, op := .pick (.t 39) (.t 44) (.c (.bool false)) },
  { dst := some 32, op := .mov (.t 45) }]
def r16_19 : List VOper := [
  { dst := some 46, op := .mov (.t 4) },
  { dst := some 47, op := .mov (.t 7) },
  { dst := some 48, op := .slSl none (.t 46) none (some (.t 47)) },
  { dst := some 4, op := .mov (.t 48) }]
def v16_20 : VCode := (.post [0, 4, 12, 13, 14] (.region false r16_19))
def r16_21 : List VOper := [
  { dst := some 50, op := .mov (.t 6) },
  { dst := some 51, op := .bin .eql (.t 50) (.c (.str [46, 46])) },
  { dst := some 49, op := .mov (.t 51) }]
def r16_22 : List VOper := [
  { dst := some 52, op := .mov (.t 0) },
  { dst := some 53, op := .call 31 [(.t 52)] },
  { dst := some 54, op := .not (.t 53) }]
def r16_23 : List VOper := [
  { dst := some 55, op := .mov (.t 4) },
  { dst := some 56, op := .mov (.t 6) },
  { dst := some 57, op := .buildSlice none (.str []) 1 [(0, (.t 56))] },
  { dst := some 58, op := .append none 16 (.t 55) (.t 57) },
  { dst := some 4, op := .mov (.t 58) }]
def v16_24 : VCode := (.post [0, 4, 12, 13, 14] (.region false r16_23))
def v16_25 : VCode := (.keep [0, 4, 12, 13, 14] (.weak .skip))
def v16_26 : VCode := (.cond (.t 54) v16_24 v16_25)
def v16_27 : VCode := (.seq (.region false r16_22) (.keep [0, 4, 6, 12, 13, 14, 54] (.weak v16_26)))
def r16_28 : List VOper := [
  { dst := some 60, op := .mov (.t 6) },
  { dst := some 61, op := .call 12 [(.t 60)] },
  { dst := some 62, op := .not (.t 61) },
  { dst := some 59, op := .mov (.t 62) }]
def r16_29 : List VOper := [
  { dst := some 2, op := .mov (.c (.nilsl)) },
  { dst := some 3, op := .mov (.c (.int .i64 6)) }]
def v16_30 : VCode := (.seq (.region false r16_29) (.keep [2, 3] (.weak .ret)))
def r16_31 : List VOper := [
  { dst := some 21, op := .mov (.t 4) },
  { dst := some 22, op := .mov (.t 6) },
  { dst := some 23, op := .buildSlice none (.str []) 1 [(0, (.t 22))] },
  { dst := some 24, op := .append none 16 (.t 21) (.t 23) },
  { dst := some 4, op := .mov (.t 24) }]
def v16_32 : VCode := (.post [0, 4, 12, 13, 14] (.region false r16_31))
def v16_33 : VCode := (.cond (.t 59) v16_30 v16_32)
def v16_34 : VCode := (.seq (.region false r16_28) (.keep [0, 4, 6, 12, 13, 14, 59] (.weak v16_33)))
def v16_35 : VCode := (.cond (.t 49) v16_27 v16_34)
def v16_36 : VCode := (.seq (.region false r16_21) (.keep [0, 4, 6, 12, 13, 14, 49] (.weak v16_35)))
def v16_37 : VCode := (.cond (.t 32) v16_20 v16_36)
def v16_38 : VCode := (.seq (.region false r16_18) (.keep [0, 4, 6, 7, 12, 13, 14, 32] (.weak v16_37)))
def v16_39 : VCode := (.cond (.t 25) v16_17 v16_38)
def v16_40 : VCode := (.seq (.region false r16_16) (.keep [0, 4, 6, 7, 12, 13, 14, 25] (.weak v16_39)))
def v16_41 : VCode := (.block 2 v16_40)
def v16_42 : VCode := (.seq (.region false r16_15) (.keep [0, 4, 6, 7, 12, 13, 14] (.weak v16_41)))
def v16_43 : VCode := (.seq (.region false r16_14) (.keep [0, 4, 6, 12, 13, 14] (.weak v16_42)))
def v16_44 : VCode := (.block 1 v16_43)
def r16_45 : List VOper := [
  { dst := some 63, op := .bin .add (.t 14) (.c (.int .i64 1)) },
  { dst := some 14, op := .mov (.t 63) }]
def v16_46 : VCode := (.post [0, 4, 12, 13, 14] (.region false r16_45))
def v16_47 : VCode := (.seq v16_44 v16_46)
def v16_48 : VCode := (.seq v16_13 v16_47)
def v16_49 : VCode := (.seq (.region false r16_10) (.keep [0, 4, 12, 13, 14, 15] (.weak v16_48)))
def v16_50 : VCode := (.loop [0, 4, 12, 13, 14] v16_49)
def v16_51 : VCode := (.keep [0, 4, 12, 13, 14] (.weak v16_50))
def v16_52 : VCode := (.block 0 v16_51)
def v16_53 : VCode := (.seq (.region false r16_9) (.keep [0, 4, 12, 13, 14] (.weak v16_52)))
def r16_54 : List VOper := [
  { dst := some 64, op := .mov (.t 4) },
  { dst := some 65, op := .lenSl (.t 64) },
  { dst := some 66, op := .bin .gtr (.t 65) (.c (.int .i64 32)) }]
def r16_55 : List VOper := [
  { dst := some 2, op := .mov (.c (.nilsl)) },
  { dst := some 3, op := .mov (.c (.int .i64 4)) }]
def v16_56 : VCode := (.seq (.region false r16_55) (.keep [2, 3] (.weak .ret)))
def v16_57 : VCode := (.keep [4] (.weak .skip))
def v16_58 : VCode := (.cond (.t 66) v16_56 v16_57)
def v16_59 : VCode := (.seq (.region false r16_54) (.keep [4, 66] (.weak v16_58)))
def r16_60 : List VOper := [
  { dst := some 67, op := .mov (.t 4) },
  { dst := some 2, op := .mov (.t 67) },
  { dst := some 3, op := .mov (.c (.int .i64 0)) }]
def v16_61 : VCode := (.seq (.region false r16_60) (.keep [2, 3] (.weak .ret)))
def v16_62 : VCode := (.seq v16_59 v16_61)
def v16_63 : VCode := (.seq v16_53 v16_62)
def v16_64 : VCode := (.seq (.region false r16_8) (.keep [0, 4] (.weak v16_63)))
def v16_65 : VCode := (.seq v16_7 v16_64)
def v16 : VCode := (.seq (.region false r16_1) (.keep [0] (.weak v16_65)))
theorem hv16 : codeOf Tryd.prog Tryd.f16.ntmps v16 (Tryd.f16.body.getD .skip) = some v16 := by kernel_rfl
theorem ok16 {ds : List PV} {r : PV} {fl : Bool} (h : vwp Tryd.prog v16 (retQ [(2, none), (3, none)] r fl) (initSt ds)) : CallOK Tryd.prog 16 ds r fl :=
  fn_ok Tryd.func16 rfl (by decide) hv16 rfl mixed h

/- path_build -/
def r30_1 : List VOper := [
  { dst := some 4, op := .mov (.c (.str [])) }]
def r30_2 : List VOper := [
  { dst := some 6, op := .mov (.t 1) },
  { dst := some 5, op := .mov (.t 6) }]
def r30_3 : List VOper := [
  { dst := some 7, op := .mov (.t 0) },
  { dst := some 8, op := .call 33 [(.t 7), (.c (.str [47]))] },
  { dst := some 9, op := .bin .add (.c (.str [47])) (.t 8) },
  { dst := some 4, op := .mov (.t 9) }]
def v30_4 : VCode := (.seq (.region false r30_3) (.keep [4] (.weak .ret)))
def r30_5 : List VOper := [
  { dst := some 11, op := .mov (.t 0) },
  { dst := some 12, op := .lenSl (.t 11) },
  { dst := some 13, op := .bin .eql (.t 12) (.c (.int .i64 0)) },
  { dst := some 10, op := .mov (.t 13) }]
def r30_6 : List VOper := [
  { dst := some 4, op := .mov (.c (.str [46])) }]
def v30_7 : VCode := (.seq (.region false r30_6) (.keep [4] (.weak .ret)))
def v30_8 : VCode := (.keep [0] (.weak .skip))
def v30_9 : VCode := (.cond (.t 10) v30_7 v30_8)
def v30_10 : VCode := (.seq (.region false r30_5) (.keep [0, 10] (.weak v30_9)))
def v30_11 : VCode := (.cond (.t 5) v30_4 v30_10)
def v30_12 : VCode := (.seq (.region false r30_2) (.keep [0, 5] (.weak v30_11)))
def v30_13 : VCode := (.block 0 v30_12)
def r30_14 : List VOper := [
  { dst := some 14, op := .mov (.t 0) },
  { dst := some 15, op := .call 33 [(.t 14), (.c (.str [47]))] },
  { dst := some 4, op := .mov (.t 15) }]
def v30_15 : VCode := (.seq (.region false r30_14) (.keep [4] (.weak .ret)))
def v30_16 : VCode := (.seq v30_13 v30_15)
def v30 : VCode := (.seq (.region false r30_1) (.keep [0, 1] (.weak v30_16)))
theorem hv30 : codeOf Tryd.prog Tryd.f30.ntmps v30 (Tryd.f30.body.getD .skip) = some v30 := by kernel_rfl
theorem ok30 {ds : List PV} {r : PV} {fl : Bool} (h : vwp Tryd.prog v30 (retQ [(4, none)] r fl) (initSt ds)) : CallOK Tryd.prog 30 ds r fl :=
  fn_ok Tryd.func30 rfl (by decide) hv30 rfl mixed h

/- path_Clean -/
def r14_1 : List VOper := [
  { dst := some 2, op := .mov (.c (.str [])) },
  { dst := some 3, op := .mov (.c (.int .i64 0)) }]
def r14_2 : List VOper := [
  { dst := some 7, op := .mov (.t 0) },
  { dst := some 8, op := .call 16 [(.t 7)] },
  { dst := some 6, op := .mov (.t 8) },
  { dst := some 9, op := .extract (.t 6) 0 },
  { dst := some 10, op := .extract (.t 6) 1 },
  { dst := some 4, op := .mov (.t 9) },
  { dst := some 5, op := .mov (.t 10) }]
def r14_3 : List VOper := [
  { dst := some 11, op := .mov (.t 5) },
  { dst := some 12, op := .bin .neq (.t 11) (.c (.int .i64 0)) }]
def r14_4 : List VOper := [
  { dst := some 13, op := .mov (.t 5) },
  { dst := some 2, op := .mov (.c (.str [])) },
  { dst := some 3, op := .mov (.t 13) }]
def v14_5 : VCode := (.seq (.region false r14_4) (.keep [2, 3] (.weak .ret)))
def v14_6 : VCode := (.keep [0, 4] (.weak .skip))
def v14_7 : VCode := (.cond (.t 12) v14_5 v14_6)
def v14_8 : VCode := (.seq (.region false r14_3) (.keep [0, 4, 5, 12] (.weak v14_7)))
def r14_9 : List VOper := [
  { dst := some 14, op := .mov (.t 4) },
  { dst := some 15, op := .mov (.t 0) },
  { dst := some 16, op := .call 31 [(.t 15)] },
  { dst := some 17, op := .call 30 [(.t 14), (.t 16)] },
  { dst := some 2, op := .mov (.t 17) },
  { dst := some 3, op := .mov (.c (.int .i64 0)) }]
def v14_10 : VCode := (.seq (.region false r14_9) (.keep [2, 3] (.weak .ret)))
def v14_11 : VCode := (.seq v14_8 v14_10)
def v14_12 : VCode := (.seq (.region false r14_2) (.keep [0, 4, 5] (.weak v14_11)))
def v14 : VCode := (.seq (.region false r14_1) (.keep [0] (.weak v14_12)))
theorem hv14 : codeOf Tryd.prog Tryd.f14.ntmps v14 (Tryd.f14.body.getD .skip) = some v14 := by kernel_rfl
theorem ok14 {ds : List PV} {r : PV} {fl : Bool} (h : vwp Tryd.prog v14 (retQ [(2, none), (3, none)] r fl) (initSt ds)) : CallOK Tryd.prog 14 ds r fl :=
  fn_ok Tryd.func14 rfl (by decide) hv14 rfl mixed h

/- path_Join -/
def r19_1 : List VOper := [
  { dst := some 4, op := .mov (.c (.str [])) },
  { dst := some 5, op := .mov (.c (.int .i64 0)) }]
def r19_2 : List VOper := [
  { dst := some 6, op := .mov (.t 1) },
  { dst := some 7, op := .call 31 [(.t 6)] },
  { dst := some 8, op := .mov (.t 7) },
  { dst := some 9, op := .mov (.t 0), guard := some (8, false) },
  { dst := some 10, op := .bin .eql (.t 9) (.c (.str [])), guard := some (8, false) },
  { dst := some 11, op := .pick (.t 8) (.c (.bool true)) (.t 10) }]
def r19_3 : List VOper := [
  { dst := some 12, op := .mov (.t 1) },
  { dst := some 13, op := .call 14 [(.t 12)] },
  { dst := some 14, op := .extract (.t 13) 0 },
  { dst := some 15, op := .extract (.t 13) 1 },
  { dst := some 4, op := .mov (.t 14) },
  { dst := some 5, op := .mov (.t 15) }]
def v19_4 : VCode := (.seq (.region false r19_3) (.keep [4, 5] (.weak .ret)))
def v19_5 : VCode := (.keep [0, 1] (.weak .skip))
def v19_6 : VCode := (.cond (.t 11) v19_4 v19_5)
def v19_7 : VCode := (.seq (.region false r19_2) (.keep [0, 1, 11] (.weak v19_6)))
def r19_8 : List VOper := [
  { dst := some 16, op := .mov (.t 0) },
  { dst := some 17, op := .bin .add (.t 16) (.c (.str [47])) },
  { dst := some 18, op := .mov (.t 1) },
  { dst := some 19, op := .bin .add (.t 17) (.t 18) },
  { dst := some 20, op := .call 14 [(.t 19)] },
  { dst := some 21, op := .extract (.t 20) 0 },
  { dst := some 22, op := .extract (.t 20) 1 },
  { dst := some 4, op := .mov (.t 21) },
  { dst := some 5, op := .mov (.t 22) }]
def v19_9 : VCode := (.seq (.region false r19_8) (.keep [4, 5] (.weak .ret)))
def v19_10 : VCode := (.seq v19_7 v19_9)
def v19 : VCode := (.seq (.region false r19_1) (.keep [0, 1] (.weak v19_10)))
theorem hv19 : codeOf Tryd.prog Tryd.f19.ntmps v19 (Tryd.f19.body.getD .skip) = some v19 := by kernel_rfl
theorem ok19 {ds : List PV} {r : PV} {fl : Bool} (h : vwp Tryd.prog v19 (retQ [(4, none), (5, none)] r fl) (initSt ds)) : CallOK Tryd.prog 19 ds r fl :=
  fn_ok Tryd.func19 rfl (by decide) hv19 rfl mixed h

/- path_Base -/
def r26_1 : List VOper := [
  { dst := some 2, op := .mov (.c (.str [])) }]
def r26_2 : List VOper := [
  { dst := some 6, op := .mov (.t 0) },
  { dst := some 7, op := .call 16 [(.t 6)] },
  { dst := some 5, op := .mov (.t 7) },
  { dst := some 8, op := .extract (.t 5) 0 },
  { dst := some 9, op := .extract (.t 5) 1 },
  { dst := some 3, op := .mov (.t 8) },
  { dst := some 4, op := .mov (.t 9) }]
def r26_3 : List VOper := [
  { dst := some 11, op := .mov (.t 4) },
  { dst := some 12, op := .bin .neq (.t 11) (.c (.int .i64 0)) },
  { dst := some 10, op := .mov (.t 12) }]
def r26_4 : List VOper := [
  { dst := some 2, op := .mov (.c (.str [])) }]
def v26_5 : VCode := (.seq (.region false r26_4) (.keep [2] (.weak .ret)))
def r26_6 : List VOper := [
  { dst := some 14, op := .mov (.t 3) },
  { dst := some 15, op := .lenSl (.t 14) },
  { dst := some 16, op := .bin .eql (.t 15) (.c (.int .i64 0)) },
  { dst := some 13, op := .mov (.t 16) }]
def r26_7 : List VOper := [
  { dst := some 17, op := .mov (.t 0) },
  { dst := some 18, op := .call 31 [(.t 17)] },
  { dst := some 19, op := .call 30 [(.c (.nilsl)), (.t 18)] },
  { dst := some 2, op := .mov (.t 19) }]
def v26_8 : VCode := (.seq (.region false r26_7) (.keep [2] (.weak .ret)))
def v26_9 : VCode := (.keep [3] (.weak .skip))
def v26_10 : VCode := (.cond (.t 13) v26_8 v26_9)
def v26_11 : VCode := (.seq (.region false r26_6) (.keep [0, 3, 13] (.weak v26_10)))
def v26_12 : VCode := (.cond (.t 10) v26_5 v26_11)
def v26_13 : VCode := (.seq (.region false r26_3) (.keep [0, 3, 10] (.weak v26_12)))
def v26_14 : VCode := (.block 0 v26_13)
def r26_15 : List VOper := [
  { dst := some 20, op := .mov (.t 3) },
  { dst := some 21, op := .mov (.t 3) },
  { dst := some 22, op := .lenSl (.t 21) },
  { dst := some 23, op := .bin .sub (.t 22) (.c (.int .i64 1)) },
  { dst := some 24, op := .indexAddr none (.t 20) (.t 23) },
  { dst := some 25, op := .load none (.t 24) },
  { dst := some 2, op := .mov (.t 25) }]
def v26_16 : VCode := (.seq (.region false r26_15) (.keep [2] (.weak .ret)))
def v26_17 : VCode := (.seq v26_14 v26_16)
def v26_18 : VCode := (.seq (.region false r26_2) (.keep [0, 3, 4] (.weak v26_17)))
def v26 : VCode := (.seq (.region false r26_1) (.keep [0] (.weak v26_18)))
theorem hv26 : codeOf Tryd.prog Tryd.f26.ntmps v26 (Tryd.f26.body.getD .skip) = some v26 := by kernel_rfl
theorem ok26 {ds : List PV} {r : PV} {fl : Bool} (h : vwp Tryd.prog v26 (retQ [(2, none)] r fl) (initSt ds)) : CallOK Tryd.prog 26 ds r fl :=
  fn_ok Tryd.func26 rfl (by decide) hv26 rfl mixed h

/- path_Under -/
def r21_1 : List VOper := [
  { dst := some 4, op := .mov (.c (.bool false)) }]
def r21_2 : List VOper := [
  { dst := some 11, op := .mov (.t 0) },
  { dst := some 12, op := .call 16 [(.t 11)] },
  { dst := some 10, op := .mov (.t 12) },
  { dst := some 13, op := .extract (.t 10) 0 },
  { dst := some 14, op := .extract (.t 10) 1 },
  { dst := some 5, op := .mov (.t 13) },
  { dst := some 6, op := .mov (.t 14) }]
def r21_3 : List VOper := [
  { dst := some 16, op := .mov (.t 1) },
  { dst := some 17, op := .call 16 [(.t 16)] },
  { dst := some 15, op := .mov (.t 17) },
  { dst := some 18, op := .extract (.t 15) 0 },
  { dst := some 19, op := .extract (.t 15) 1 },
  { dst := some 7, op := .mov (.t 18) },
  { dst := some 8, op := .mov (.t 19) }]
def r21_4 : List VOper := [
  { dst := some 20, op := .mov (.t 6) },
  { dst := some 21, op := .bin .neq (.t 20) (.c (.int .i64 0)) },
  { dst := some 22, op := .mov (.t 21) },
  { dst := some 23, op := .mov (.t 8), guard := some (22, false) },
  { dst := some 24, op := .bin .neq (.t 23) (.c (.int .i64 0)), guard := some (22, false) },
  { dst := some 25, op := .pick (.t 22) (.c (.bool true)) (.t 24) },
  { dst := some 26, op := .mov (.t 25) },
  { dst := some 27, op := .mov (.t 0), guard := some (26, false) },
  { dst := some 28, op := .call 31 [(.t 27)], guard := some (26, false) },
  { dst := some 29, op := .not (.t 28), guard := some (26, false) },
  { dst := some 30, op := .pick (.t 26) (.c (.bool true)) (.t 29) },
  { dst := some 31, op := .mov (.t 30) },
  { dst := some 32, op := .mov (.t 1), guard := some (31, false) },
  { dst := some 33, op := .call 31 [(.t 32)], guard := some (31, false) },
  { dst := some 34, op := .not (.t 33), guard := some (31, false) },
  { dst := some 35, op := .pick (.t 31) (.c (.bool true)) (.t 34) },
  { dst := some 36, op := .mov (.t 35) },
  { dst := some 37, op := .mov (.t 5), guard := some (36, false) },
  { dst := some 38, op := .lenSl (.t 37), guard := some (36, false) },
  { dst := some 39, op := .mov (.t 7), guard := some (36, false) },
  { dst := some 40, op := .lenSl (.t 39), guard := some (36, false) },
  { dst := some 41, op := .bin .gtr (.t 38) (.t 40), guard := some (36, false) },
  { dst := some 42, op := .pick (.t 36) (.c (.bool true)) (.t 41) }]
def r21_5 : List VOper := [
  { dst := some 4, op := .mov (.c (.bool false)) }]
def v21_6 : VCode := (.seq (.region false r21_5) (.keep [4] (.weak .ret)))
def v21_7 : VCode := (.keep [5, 7] (.weak .skip))
def v21_8 : VCode := (.cond (.t 42) v21_6 v21_7)
def v21_9 : VCode := (.seq (.region false r21_4) (.keep [5, 7, 42] (.weak v21_8)))
def r21_10 : List VOper := [
  { dst := some 43, op := .mov (.t 5) },
  { dst := some 44, op := .lenSl (.t 43) },
  { dst := some 45, op := .mov (.c (.int .i64 0)) }]
def r21_11 : List VOper := [
  { dst := some 46, op := .bin .lss (.t 45) (.t 44) }]
def v21_12 : VCode := (.keep [5, 7, 44, 45] (.weak .skip))
def v21_13 : VCode := (.keep [] (.weak (.exit 0)))
def v21_14 : VCode := (.cond (.t 46) v21_12 v21_13)
def r21_15 : List VOper := [
  { dst := some 47, op := .mov (.t 45) },
  { dst := some 9, op := .mov (.t 47) }]
def r21_16 : List VOper := [
  { dst := some 48, op := .mov (.t 5) },
  { dst := some 49, op := .mov (.t 9) },
  { dst := some 50, op := .indexAddr none (.t 48) (.t 49), bef := [0, 1] },
  { dst := some 51, op := .load none (.t 50), bef := [0, 1, 2] },
  { dst := some 52, op := .mov (.t 7) },
  { dst := some 53, op := .mov (.t 9) },
  { dst := some 54, op := .indexAddr none (.t 52) (.t 53), bef := [4, 5] },
  { dst := some 55, op := .load none (.t 54), bef := [4, 5, 6] },
  { dst := some 56, op := .bin .neq (.t 51) (.t 55), bef := [0, 1, 2, 3, 4, 5, 6, 7] }]
def r21_17 : List VOper := [
  { dst := some 4, op := .mov (.c (.bool false)) }]
def v21_18 : VCode := (.seq (.region false r21_17) (.keep [4] (.weak .ret)))
def v21_19 : VCode := (.keep [5, 7, 44, 45] (.weak .skip))
def v21_20 : VCode := (.cond (.t 56) v21_18 v21_19)
def v21_21 : VCode := (.seq (.region true r21_16) (.keep [5, 7, 44, 45, 56] (.weak v21_20)))
def v21_22 : VCode := (.seq (.region false r21_15) (.keep [5, 7, 9, 44, 45] (.weak v21_21)))
def v21_23 : VCode := (.block 1 v21_22)
def r21_24 : List VOper := [
  { dst := some 57, op := .bin .add (.t 45) (.c (.int .i64 1)) },
  { dst := some 45, op := .mov (.t 57) }]
def v21_25 : VCode := (.post [5, 7, 44, 45] (.region false r21_24))
def v21_26 : VCode := (.seq v21_23 v21_25)
def v21_27 : VCode := (.seq v21_14 v21_26)
def v21_28 : VCode := (.seq (.region false r21_11) (.keep [5, 7, 44, 45, 46] (.weak v21_27)))
def v21_29 : VCode := (.loop [5, 7, 44, 45] v21_28)
def v21_30 : VCode := (.keep [5, 7, 44, 45] (.weak v21_29))
def v21_31 : VCode := (.block 0 v21_30)
def v21_32 : VCode := (.seq (.region false r21_10) (.keep [5, 7, 44, 45] (.weak v21_31)))
def r21_33 : List VOper := [
  { dst := some 4, op := .mov (.c (.bool true)) }]
def v21_34 : VCode := (.seq (.region false r21_33) (.keep [4] (.weak .ret)))
def v21_35 : VCode := (.seq v21_32 v21_34)
def v21_36 : VCode := (.seq v21_9 v21_35)
def v21_37 : VCode := (.seq (.region false r21_3) (.keep [0, 1, 5, 6, 7, 8] (.weak v21_36)))
def v21_38 : VCode := (.seq (.region false r21_2) (.keep [0, 1, 5, 6] (.weak v21_37)))
def v21 : VCode := (.seq (.region false r21_1) (.keep [0, 1] (.weak v21_38)))
theorem hv21 : codeOf Tryd.prog Tryd.f21.ntmps v21 (Tryd.f21.body.getD .skip) = some v21 := by kernel_rfl
theorem ok21 {ds : List PV} {r : PV} {fl : Bool} (h : vwp Tryd.prog v21 (retQ [(4, none)] r fl) (initSt ds)) : CallOK Tryd.prog 21 ds r fl :=
  fn_ok Tryd.func21 rfl (by decide) hv21 rfl mixed h

/- law03_awake -/
def r11_1 : List VOper := [
  { dst := some 0, op := .mov (.c (.bool false)) }]
def r11_2 : List VOper := [
  { dst := some 6, op := .call 14 [(.c (.str [47, 97, 47, 46, 46, 47, 98, 47, 47, 99, 47, 46]))] },
  { dst := some 5, op := .mov (.t 6) },
  { dst := some 7, op := .extract (.t 5) 0 },
  { dst := some 8, op := .extract (.t 5) 1 },
  { dst := some 1, op := .mov (.t 7) },
  { dst := some 2, op := .mov (.t 8) }]
def r11_3 : List VOper := [
  { dst := some 10, op := .call 19 [(.c (.str [47, 97, 47, 98])), (.c (.str [46, 46, 47, 99]))] },
  { dst := some 9, op := .mov (.t 10) },
  { dst := some 11, op := .extract (.t 9) 0 },
  { dst := some 12, op := .extract (.t 9) 1 },
  { dst := some 3, op := .mov (.t 11) },
  { dst := some 4, op := .mov (.t 12) }]
def r11_4 : List VOper := [
  { dst := some 13, op := .mov (.t 1) },
  { dst := some 14, op := .bin .eql (.t 13) (.c (.str [47, 98, 47, 99])) },
  { dst := some 15, op := .mov (.t 14) },
  { dst := some 16, op := .mov (.t 2), guard := some (15, true) },
  { dst := some 17, op := .bin .eql (.t 16) (.c (.int .i64 0)), guard := some (15, true) },
  { dst := some 18, op := .pick (.t 15) (.t 17) (.c (.bool false)) },
  { dst := some 19, op := .mov (.t 18) },
  { dst := some 20, op := .mov (.t 3), guard := some (19, true) },
  { dst := some 21, op := .bin .eql (.t 20) (.c (.str [47, 97, 47, 99])), guard := some (19, true) },
  { dst := some 22, op := .pick (.t 19) (.t 21) (.c (.bool false)) },
  { dst := some 23, op := .mov (.t 22) },
  { dst := some 24, op := .mov (.t 4), guard := some (23, true) },
  { dst := some 25, op := .bin .eql (.t 24) (.c (.int .i64 0)), guard := some (23, true) },
  { dst := some 26, op := .pick (.t 23) (.t 25) (.c (.bool false)) },
  { dst := some 27, op := .mov (.t 26) },
  { dst := some 28, op := .call 12 [(.c (.str [97, 46, 98]))], guard := some (27, true) },
  { dst := some 29, op := .pick (.t 27) (.t 28) (.c (.bool false)) },
  { dst := some 30, op := .mov (.t 29) },
  { dst := some 31, op := .call 12 [(.c (.str [46, 46]))], guard := some (30, true) },
  { dst := some 32, op := .not (.t 31), guard := some (30, true) },
  { dst := some 33, op := .pick (.t 30) (.t 32) (.c (.bool false)) },
  { dst := some 34, op := .mov (.t 33) },
  { dst := some 35, op := .call 26 [(.c (.str [47, 97, 47, 98, 47]))], guard := some (34, true) },
  { dst := some 36, op := .bin .eql (.t 35) (.c (.str [98])), guard := some (34, true) },
  { dst := some 37, op := .pick (.t 34) (.t 36) (.c (.bool false)) },
  { dst := some 38, op := .mov (.t 37) },
  { dst := some 39, op := .call 21 [(.c (.str [47, 97])), (.c (.str [47, 97, 47, 98]))], guard := some (38, true) },
  { dst := some 40, op := .pick (.t 38) (.t 39) (.c (.bool false)) },
  { dst := some 41, op := .mov (.t 40) },
  { dst := some 42, op := .call 21 [(.c (.str [47, 97])), (.c (.str [47, 97, 98]))], guard := some (41, true) },
  { dst := some 43, op := .not (.t 42), guard := some (41, true) },
  { dst := some 44, op := .pick (.t 41) (.t 43) (.c (.bool false)) },
  { dst := some 0, op := .mov (.t 44) }]
def v11_5 : VCode := (.seq (.region false r11_4) (.keep [0] (.weak .ret)))
def v11_6 : VCode := (.seq (.region false r11_3) (.keep [1, 2, 3, 4] (.weak v11_5)))
def v11_7 : VCode := (.seq (.region false r11_2) (.keep [1, 2] (.weak v11_6)))
def v11 : VCode := (.seq (.region false r11_1) (.keep [] (.weak v11_7)))
theorem hv11 : codeOf Tryd.prog Tryd.f11.ntmps v11 (Tryd.f11.body.getD .skip) = some v11 := by kernel_rfl
theorem ok11 {ds : List PV} {r : PV} {fl : Bool} (h : vwp Tryd.prog v11 (retQ [(0, none)] r fl) (initSt ds)) : CallOK Tryd.prog 11 ds r fl :=
  fn_ok Tryd.func11 rfl (by decide) hv11 rfl mixed h

/- ref03_Valid -/
def r13_1 : List VOper := [
  { dst := some 2, op := .mov (.c (.bool false)) }]
def r13_2 : List VOper := [
  { dst := some 3, op := .mov (.c (.int .i64 0)) }]
def r13_3 : List VOper := [
  { dst := some 4, op := .mov (.t 3) },
  { dst := some 5, op := .mov (.t 0) },
  { dst := some 6, op := .lenStr (.t 5) },
  { dst := some 7, op := .bin .lss (.t 4) (.t 6) }]
def v13_4 : VCode := (.keep [0, 3] (.weak .skip))
def v13_5 : VCode := (.keep [0] (.weak (.exit 0)))
def v13_6 : VCode := (.cond (.t 7) v13_4 v13_5)
def v13_7 : VCode := (.seq (.region false r13_3) (.keep [0, 3, 7] (.weak v13_6)))
def r13_8 : List VOper := [
  { dst := some 10, op := .mov (.t 0) },
  { dst := some 11, op := .mov (.t 3) },
  { dst := some 12, op := .indexStr (.t 10) (.t 11) },
  { dst := some 13, op := .bin .lss (.t 12) (.c (.int .u8 33)) },
  { dst := some 14, op := .mov (.t 13) },
  { dst := some 15, op := .mov (.t 0), guard := some (14, false) },
  { dst := some 16, op := .mov (.t 3), guard := some (14, false) },
  { dst := some 17, op := .indexStr (.t 15) (.t 16), guard := some (14, false) },
  { dst := some 18, op := .bin .gtr (.t 17) (.c (.int .u8 126)), guard := some (14, false) },
  { dst := some 19, op := .pick (.t 14) (.c (.bool true)) (.t 18) },
  { dst := some 20, op := .mov (.t 19) },
  { dst := some 21, op := .mov (.t 0), guard := some (20, false) },
  { dst := some 22, op := .mov (.t 3), guard := some (20, false) },
  { dst := some 23, op := .indexStr (.t 21) (.t 22), guard := some (20, false) },
  { dst := some 24, op := .bin .eql (.t 23) (.c (.int .u8 47)), guard := some (20, false) },
  { dst := some 25, op := .pick (.t 20) (.c (.bool true)) (.t 24) }]
def r13_9 : List VOper := [
  { dst := some 2, op := .mov (.c (.bool false)) }]
def v13_10 : VCode := (.seq (.region false r13_9) (.keep [2] (.weak .ret)))
def v13_11 : VCode := (.keep [0, 3] (.weak .skip))
def v13_12 : VCode := (.cond (.t 25) v13_10 v13_11)
def v13_13 : VCode := (.seq (.region false r13_8) (.keep [0, 3, 25] (.weak v13_12)))
def v13_14 : VCode := (.block 1 v13_13)
def r13_15 : List VOper := [
  { dst := some 8, op := .mov (.t 3) },
  { dst := some 9, op := .bin .add (.t 8) (.c (.int .i64 1)) },
  { dst := some 3, op := .mov (.t 9) }]
def v13_16 : VCode := (.post [0, 3] (.region false r13_15))
def v13_17 : VCode := (.seq v13_14 v13_16)
def v13_18 : VCode := (.seq v13_7 v13_17)
def v13_19 : VCode := (.loop [0, 3] v13_18)
def v13_20 : VCode := (.keep [0, 3] (.weak v13_19))
def v13_21 : VCode := (.block 0 v13_20)
def v13_22 : VCode := (.seq (.region false r13_2) (.keep [0, 3] (.weak v13_21)))
def r13_23 : List VOper := [
  { dst := some 26, op := .mov (.t 0) },
  { dst := some 27, op := .lenStr (.t 26) },
  { dst := some 28, op := .bin .geq (.t 27) (.c (.int .i64 1)) },
  { dst := some 29, op := .mov (.t 28) },
  { dst := some 30, op := .mov (.t 0), guard := some (29, true) },
  { dst := some 31, op := .lenStr (.t 30), guard := some (29, true) },
  { dst := some 32, op := .bin .leq (.t 31) (.c (.int .i64 64)), guard := some (29, true) },
  { dst := some 33, op := .pick (.t 29) (.t 32) (.c (.bool false)) },
  { dst := some 34, op := .mov (.t 33) },
  { dst := some 35, op := .mov (.t 0), guard := some (34, true) },
  { dst := some 36, op := .bin .neq (.t 35) (.c (.str [46])), guard := some (34, true) },
  { dst := some 37, op := .pick (.t 34) (.t 36) (.c (.bool false)) },
  { dst := some 38, op := .mov (.t 37) },
  { dst := some 39, op := .mov (.t 0), guard := some (38, true) },
  { dst := some 40, op := .bin .neq (.t 39) (.c (.str [46, 46])), guard := some (38, true) },
  { dst := some 41, op := .pick (.t 38) (.t 40) (.c (.bool false)) },
  { dst := some 2, op := .mov (.t 41) }]
def v13_24 : VCode := (.seq (.region false r13_23) (.keep [2] (.weak .ret)))
def v13_25 : VCode := (.seq v13_22 v13_24)
def v13 : VCode := (.seq (.region false r13_1) (.keep [0] (.weak v13_25)))
theorem hv13 : codeOf Tryd.prog Tryd.f13.ntmps v13 (Tryd.f13.body.getD .skip) = some v13 := by kernel_rfl
theorem ok13 {ds : List PV} {r : PV} {fl : Bool} (h : vwp Tryd.prog v13 (retQ [(2, none)] r fl) (initSt ds)) : CallOK Tryd.prog 13 ds r fl :=
  fn_ok Tryd.func13 rfl (by decide) hv13 rfl mixed h

/- law03_PathNames -/
def r3_1 : List VOper := [
  { dst := some 2, op := .mov (.c (.bool false)) }]
def r3_2 : List VOper := [
  { dst := some 3, op := .mov (.t 0) },
  { dst := some 4, op := .lenStr (.t 3) },
  { dst := some 5, op := .bin .gtr (.t 4) (.c (.int .i64 5000)) }]
def r3_3 : List VOper := [
  { dst := some 6, op := .call 11 [] },
  { dst := some 2, op := .mov (.t 6) }]
def v3_4 : VCode := (.seq (.region false r3_3) (.keep [2] (.weak .ret)))
def v3_5 : VCode := (.keep [0] (.weak .skip))
def v3_6 : VCode := (.cond (.t 5) v3_4 v3_5)
def v3_7 : VCode := (.seq (.region false r3_2) (.keep [0, 5] (.weak v3_6)))
def r3_8 : List VOper := [
  { dst := some 7, op := .mov (.t 0) },
  { dst := some 8, op := .call 12 [(.t 7)] },
  { dst := some 9, op := .mov (.t 0) },
  { dst := some 10, op := .call 13 [(.t 9)] },
  { dst := some 11, op := .beq false (.t 8) (.t 10) },
  { dst := some 12, op := .mov (.t 11) },
  { dst := some 13, op := .call 11 [], guard := some (12, true) },
  { dst := some 14, op := .pick (.t 12) (.t 13) (.c (.bool false)) },
  { dst := some 2, op := .mov (.t 14) }]
def v3_9 : VCode := (.seq (.region false r3_8) (.keep [2] (.weak .ret)))
def v3_10 : VCode := (.seq v3_7 v3_9)
def v3 : VCode := (.seq (.region false r3_1) (.keep [0] (.weak v3_10)))
theorem hv3 : codeOf Tryd.prog Tryd.f3.ntmps v3 (Tryd.f3.body.getD .skip) = some v3 := by kernel_rfl
theorem ok3 {ds : List PV} {r : PV} {fl : Bool} (h : vwp Tryd.prog v3 (retQ [(2, none)] r fl) (initSt ds)) : CallOK Tryd.prog 3 ds r fl :=
  fn_ok Tryd.func3 rfl (by decide) hv3 rfl mixed h

/- ref03_Parts -/
def r25_1 : List VOper := [
  { dst := some 2, op := .mov (.c (.nilsl)) }]
def r25_2 : List VOper := [
  { dst := some 3, op := .mov (.c (.nilsl)) }]
def r25_3 : List VOper := [
  { dst := some 4, op := .mov (.c (.int .i64 0)) }]
def r25_4 : List VOper := [
  { dst := some 5, op := .mov (.c (.int .i64 0)) }]
def r25_5 : List VOper := [
  { dst := some 6, op := .mov (.t 5) },
  { dst := some 7, op := .mov (.t 0) },
  { dst := some 8, op := .lenStr (.t 7) },
  { dst := some 9, op := .bin .leq (.t 6) (.t 8) }]
def v25_6 : VCode := (.keep [0, 3, 4, 5] (.weak .skip))
def v25_7 : VCode := (.keep [3] (.weak (.exit 0)))
def v25_8 : VCode := (.cond (.t 9) v25_6 v25_7)
def v25_9 : VCode := (.seq (.region false r25_5) (.keep [0, 3, 4, 5, 9] (.weak v25_8)))
def r25_10 : List VOper := [
  { dst := some 12, op := .mov (.t 5) },
  { dst := some 13, op := .mov (.t 0) },
  { dst := some 14, op := .lenStr (.t 13) },
  { dst := some 15, op := .bin .eql (.t 12) (.t 14) },
  { dst := some 16, op := .mov (.t 15) },
  { dst := some 17, op := .mov (.t 0), guard := some (16, false) },
  { dst := some 18, op := .mov (.t 5), guard := some (16, false) },
  { dst := some 19, op := .indexStr (.t 17) (.t 18), guard := some (16, false) },
  { dst := some 20, op := .bin .eql (.t 19) (.c (.int .u8 47)), guard := some (16, false) },
  { dst := some 21, op := .pick (.t 16) (.c (.bool true)) (.t 20) }]
def r25_11 : List VOper := [
  { dst := some 22, op := .mov (.t 3) },
  { dst := some 23, op := .mov (.t 0) },
  { dst := some 24, op := .mov (.t 4) },
  { dst := some 25, op := .mov (.t 5) },
  { dst := some 26, op := .slStr (.t 23) (some (.t 24)) (some (.t 25)) },
  { dst := some 27, op := .buildSlice none (.str []) 1 [(0, (.t 26))] },
  { dst := some 28, op := .append none 16 (.t 22) (.t 27) },
  { dst := some 3, op := .mov (.t 28) }]
def r25_12 : List VOper := [
  { dst := some 29, op := .mov (.t 5) },
  { dst := some 30, op := .bin .add (.t 29) (.c (.int .i64 1)) },
  { dst := some 4, op := .mov (.t 30) }]
def v25_13 : VCode := (.post [0, 3, 4, 5] (.region false r25_12))
def v25_14 : VCode := (.seq (.region false r25_11) (.keep [0, 3, 5] (.weak v25_13)))
def v25_15 : VCode := (.keep [0, 3, 4, 5] (.weak .skip))
def v25_16 : VCode := (.cond (.t 21) v25_14 v25_15)
def v25_17 : VCode := (.seq (.region false r25_10) (.keep [0, 3, 4, 5, 21] (.weak v25_16)))
def v25_18 : VCode := (.block 1 v25_17)
def r25_19 : List VOper := [
  { dst := some 10, op := .mov (.t 5) },
  { dst := some 11, op := .bin .add (.t 10) (.c (.int .i64 1)) },
  { dst := some 5, op := .mov (.t 11) }]
def v25_20 : VCode := (.post [0, 3, 4, 5] (.region false r25_19))
def v25_21 : VCode := (.seq v25_18 v25_20)
def v25_22 : VCode := (.seq v25_9 v25_21)
def v25_23 : VCode := (.loop [0, 3, 4, 5] v25_22)
def v25_24 : VCode := (.keep [0, 3, 4, 5] (.weak v25_23))
def v25_25 : VCode := (.block 0 v25_24)
def v25_26 : VCode := (.seq (.region false r25_4) (.keep [0, 3, 4, 5] (.weak v25_25)))
def r25_27 : List VOper := [
  { dst := some 31, op := .mov (.t 3) },
  { dst := some 2, op := .mov (.t 31) }]
def v25_28 : VCode := (.seq (.region false r25_27) (.keep [2] (.weak .ret)))
def v25_29 : VCode := (.seq v25_26 v25_28)
def v25_30 : VCode := (.seq (.region false r25_3) (.keep [0, 3, 4] (.weak v25_29)))
def v25_31 : VCode := (.seq (.region false r25_2) (.keep [0, 3] (.weak v25_30)))
def v25 : VCode := (.seq (.region false r25_1) (.keep [0] (.weak v25_31)))
theorem hv25 : codeOf Tryd.prog Tryd.f25.ntmps v25 (Tryd.f25.body.getD .skip) = some v25 := by kernel_rfl
theorem ok25 {ds : List PV} {r : PV} {fl : Bool} (h : vwp Tryd.prog v25 (retQ [(2, none)] r fl) (initSt ds)) : CallOK Tryd.prog 25 ds r fl :=
  fn_ok Tryd.func25 rfl (by decide) hv25 rfl mixed h

/- ref03_Rooted -/
def r24_1 : List VOper := [
  { dst := some 2, op := .mov (.c (.bool false)) }]
def r24_2 : List VOper := [
  { dst := some 3, op := .mov (.t 0) },
  { dst := some 4, op := .lenStr (.t 3) },
  { dst := some 5, op := .bin .gtr (.t 4) (.c (.int .i64 0)) },
  { dst := some 6, op := .mov (.t 5) },
  { dst := some 7, op := .mov (.t 0), guard := some (6, true) },
  { dst := some 8, op := .indexStr (.t 7) (.c (.int .i64 0)), guard := some (6, true) },
  { dst := some 9, op := .bin .eql (.t 8) (.c (.int .u8 47)), guard := some (6, true) },
  { dst := some 10, op := .pick (.t 6) (.t 9) (.c (.bool false)) },
  { dst := some 2, op := .mov (.t 10) }]
def v24_3 : VCode := (.seq (.region false r24_2) (.keep [2] (.weak .ret)))
def v24 : VCode := (.seq (.region false r24_1) (.keep [0] (.weak v24_3)))
theorem hv24 : codeOf Tryd.prog Tryd.f24.ntmps v24 (Tryd.f24.body.getD .skip) = some v24 := by kernel_rfl
theorem ok24 {ds : List PV} {r : PV} {fl : Bool} (h : vwp Tryd.prog v24 (retQ [(2, none)] r fl) (initSt ds)) : CallOK Tryd.prog 24 ds r fl :=
  fn_ok Tryd.func24 rfl (by decide) hv24 rfl mixed h

/- ref03_Split -/
def r17_1 : List VOper := [
  { dst := some 2, op := .mov (.c (.nilsl)) },
  { dst := some 3, op := .mov (.c (.int .i64 0)) }]
def r17_2 : List VOper := [
  { dst := some 9, op := .mov (.t 0) },
  { dst := some 10, op := .lenStr (.t 9) },
  { dst := some 11, op := .bin .gtr (.t 10) (.c (.int .i64 1024)) }]
def r17_3 : List VOper := [
  { dst := some 2, op := .mov (.c (.nilsl)) },
  { dst := some 3, op := .mov (.c (.int .i64 4)) }]
def v17_4 : VCode := (.seq (.region false r17_3) (.keep [2, 3] (.weak .ret)))
def v17_5 : VCode := (.keep [0] (.weak .skip))
def v17_6 : VCode := (.cond (.t 11) v17_4 v17_5)
def v17_7 : VCode := (.seq (.region false r17_2) (.keep [0, 11] (.weak v17_6)))
def r17_8 : List VOper := [
  { dst := some 12, op := .mov (.t 0) },
  { dst := some 13, op := .call 25 [(.t 12)] },
  { dst := some 4, op := .mov (.t 13) }]
def r17_9 : List VOper := [
  { dst := some 5, op := .mov (.c (.int .i64 0)) }]
def r17_10 : List VOper := [
  { dst := some 14, op := .mov (.t 5) },
  { dst := some 15, op := .mov (.t 4) },
  { dst := some 16, op := .lenSl (.t 15) },
  { dst := some 17, op := .bin .lss (.t 14) (.t 16) }]
def v17_11 : VCode := (.keep [0, 4, 5] (.weak .skip))
def v17_12 : VCode := (.keep [0, 4] (.weak (.exit 0)))
def v17_13 : VCode := (.cond (.t 17) v17_11 v17_12)
def v17_14 : VCode := (.seq (.region false r17_10) (.keep [0, 4, 5, 17] (.weak v17_13)))
def r17_15 : List VOper := [
  { dst := some 20, op := .mov (.t 4) },
  { dst := some 21, op := .mov (.t 5) },
  { dst := some 22, op := .indexAddr none (.t 20) (.t 21) },
  { dst := some 23, op := .load none (.t 22) },
  { dst := some 24, op := .bin .neq (.t 23) (.c (.str [])) },
  { dst := some 25, op := .mov (.t 24) },
  { dst := some 26, op := .mov (.t 4), guard := some (25, true) },
  { dst := some 27, op := .mov (.t 5), guard := some (25, true) },
  { dst := some 28, op := .indexAddr none (.t 26) (.t 27), guard := some (25, true) },
  { dst := some 29, op := .load none (.t 28), guard := some (25, true) },
  { dst := some 30, op := .bin .neq (.t 29) (.c (.str [46])), guard := some (25, true) },
  { dst := some 31, op := .pick (.t 25) (.t 30) (.c (.bool false)) },
  { dst := some 32, op := .mov (.t 31) },
  { dst := some 33, op := .mov (.t 4), guard := some (32, true) },
  { dst := some 34, op := .mov (.t 5), guard := some (32, true) },
  { dst := some 35, op := .indexAddr none (.t 33) (.t 34), guard := some (32, true) },
  { dst := some 36, op := .load none (.t 35), guard := some (32, true) },
  { dst := some 37, op := .bin .neq (.t 36) (.c (.str [46, 46])), guard := some (32, true) },
  { dst := some 38, op := .pick (.t 32) (.t 37) (.c (.bool false)) },
  { dst := some 39, op := .mov (.t 38) },
  { dst := some 40, op := .mov (.t 4), guard := some (39, true) },
  { dst := some 41, op := .mov (.t 5), guard := some (39, true) },
  { dst := some 42, op := .indexAddr none (.t 40) (.t 41), guard := some (39, true) },
  { dst := some 43, op := .load none (.t 42), guard := some (39, true) },
  { dst := some 44, op := .call 13 [(.t 43)], guard := some (39, true) },
  { dst := some 45, op := .not (.t 44), guard := some (39, true) },
  { dst := some 46, op := .pick (.t 39) (.t 45) (.c (.bool false)) }]
def r17_16 : List VOper := [
  { dst := some 2, op := .mov (.c (.nilsl)) },
  { dst := some 3, op := .mov (.c (.int .i64 6)) }]
def v17_17 : VCode := (.seq (.region false r17_16) (.keep [2, 3] (.weak .ret)))
def v17_18 : VCode := (.keep [0, 4, 5] (.weak .skip))
def v17_19 : VCode := (.cond (.t 46) v17_17 v17_18)
def v17_20 : VCode := (.seq (.region false r17_15) (.keep [0, 4, 5, 46] (.weak v17_19)))
def v17_21 : VCode := (.block 1 v17_20)
def r17_22 : List VOper := [
  { dst := some 18, op := .mov (.t 5) },
  { dst := some 19, op := .bin .add (.t 18) (.c (.int .i64 1)) },
  { dst := some 5, op := .mov (.t 19) }]
def v17_23 : VCode := (.post [0, 4, 5] (.region false r17_22))
def v17_24 : VCode := (.seq v17_21 v17_23)
def v17_25 : VCode := (.seq v17_14 v17_24)
def v17_26 : VCode := (.loop [0, 4, 5] v17_25)
def v17_27 : VCode := (.keep [0, 4, 5] (.weak v17_26))
def v17_28 : VCode := (.block 0 v17_27)
def v17_29 : VCode := (.seq (.region false r17_9) (.keep [0, 4, 5] (.weak v17_28)))
def r17_30 : List VOper := [
  { dst := some 6, op := .mov (.c (.nilsl)) }]
def r17_31 : List VOper := [
  { dst := some 7, op := .mov (.c (.int .i64 0)) }]
def r17_32 : List VOper := [
  { dst := some 47, op := .mov (.t 7) },
  { dst := some 48, op := .mov (.t 4) },
  { dst := some 49, op := .lenSl (.t 48) },
  { dst := some 50, op := .bin .lss (.t 47) (.t 49) }]
def v17_33 : VCode := (.keep [0, 4, 6, 7] (.weak .skip))
def v17_34 : VCode := (.keep [6] (.weak (.exit 2)))
def v17_35 : VCode := (.cond (.t 50) v17_33 v17_34)
def v17_36 : VCode := (.seq (.region false r17_32) (.keep [0, 4, 6, 7, 50] (.weak v17_35)))
def r17_37 : List VOper := [
  { dst := some 53, op := .mov (.t 6) },
  { dst := some 54, op := .lenSl (.t 53) },
  { dst := some 8, op := .mov (.t 54) }]
def r17_38 : List VOper := [
  { dst := some 63, op := .mov (.t 4) },
  { dst := some 64, op := .mov (.t 7) },
  { dst := some 65, op := .indexAddr none (.t 63) (.t 64) },
  { dst := some 66, op := .load none (.t 65) },
  { dst := some 67, op := .bin .eql (.t 66) (.c (.str [])) },
  { dst := some 68, op := .mov (.t 67) },
  { dst := some 69, op := .mov (.t 4), guard := some (68, false) },
  { dst := some 70, op := .mov (.t 7), guard := some (68, false) },
  { dst := some 71, op := .indexAddr none (.t 69) (.t 70), guard := some (68, false) },
  { dst := some 72, op := .load none (.t 71), guard := some (68, false) },
  { dst := some 73, op := .bin .eql (.t 72) (.c (.str [46])), guard := some (68, false) },
  { dst := some 74, op := .pick (.t 68) (.c (.bool true)) (.t 73) },
  { dst := some 62, op := .mov (.t 74) }]
def v17_39 : VCode := (.keep [0, 4, 6, 7] (.weak .skip))
def r17_40 : List VOper := [
  { dst := some 76, op := .mov (.t 4) },
  { dst := some 77, op := .mov (.t 7) },
  { dst := some 78, op := .indexAddr none (.t 76) (.t 77) },
  { dst := some 79, op := .load none (.t 78) },
  { dst := some 80, op := .bin .eql (.t 79) (.c (.str [46, 46])) },
  { dst := some 81, op := .mov (.t 80) },
  { dst := some 82, op := .mov (.t 8), guard := some (81, true) },
  { dst := some 83, op := .bin .gtr (.t 82) (.c (.int .i64 0)), guard := some (81, true) },
  { dst := some 84, op := .pick (.t 81) (.t 83) (.c (.bool false)) },
  { dst := some 85, op := .mov (.t 84) },
  { dst := some 86, op := .mov (.t 6), guard := some (85, true) },
  { dst := some 87, op := .mov (.t 8), guard := some (85, true) },
  { dst := some 88, op := .bin .sub (.t 87) (.c (.int .i64 1)), guard := some (85, true) },
  { dst := some 89, op := .indexAddr none (.t 86) (.t 88), guard := some (85, true) },
  { dst := some 90, op := .load none (.t 89), guard := some (85, true) },
  { dst := some 91, op := .bin .neq (.t 90) (.c (.str [46, 46])), guard := some (85, true) },
  { dst := some 92, op := .pick (.t 85) (.t 91) (.c (.bool false)) },
  { dst := some 75, op := .mov (.t 92) }]
def r17_41 : List VOper := [
  { dst := some 93, op := .mov (.t 6) },
  { dst := some 94, op := .mov (.t 8) },
  { dst := some 95, op := .bin .sub (.t 94) (.c (.int .i64 1)) },
  { dst := some 96, op := .slSl none (.t 93) none (some (.t 95)) },
  { dst := some 6, op := .mov (.t 96) }]
def v17_42 : VCode := (.post [0, 4, 6, 7] (.region false r17_41))
def r17_43 : List VOper := [
  { dst := some 98, op := .mov (.t 4) },
  { dst := some 99, op := .mov (.t 7) },
  { dst := some 100, op := .indexAddr none (.t 98) (.t 99) },
  { dst := some 101, op := .load none (.t 100) },
  { dst := some 102, op := .bin .eql (.t 101) (.c (.str [46, 46])) },
  { dst := some 103, op := .mov (.t 102) },
  { dst := some 104, op := .mov (.t 0), guard := some (103, true) },
  { dst := some 105, op := .call 24 [(.t 104)], guard := some (103, true) },
  { dst := some 106, op := .pick (.t 103) (.t 105) (.c (.bool false)) },
  { dst := some 97, op := .mov (.t 106) }]
def v17_44 : VCode := (.keep [0, 4, 6, 7] (.weak .skip))
def r17_45 : List VOper := [
  { dst := some 55, op := .mov (.t 6) },
  { dst := some 56, op := .mov (.t 4) },
  { dst := some 57, op := .mov (.t 7) },
  { dst := some 58, op := .indexAddr none (.t 56) (.t 57) },
  { dst := some 59, op := .load none (.t 58) },
  { dst := some 60, op := .buildSlice none (.str []) 1 [(0, (.t 59))] },
  { dst := some 61, op := .append none 16 (.t 55) (.t 60) },
  { dst := some 6, op := .mov (.t 61) }]
def v17_46 : VCode := (.post [0, 4, 6, 7] (.region false r17_45))
def v17_47 : VCode := (.cond (.t 97) v17_44 v17_46)
def v17_48 : VCode := (.seq (.region false r17_43) (.keep [0, 4, 6, 7, 97] (.weak v17_47)))
def v17_49 : VCode := (.cond (.t 75) v17_42 v17_48)
def v17_50 : VCode := (.seq (.region false r17_40) (.keep [0, 4, 6, 7, 8, 75] (.weak v17_49)))
def v17_51 : VCode := (.cond (.t 62) v17_39 v17_50)
def v17_52 : VCode := (.seq (.region false r17_38) (.keep [0, 4, 6, 7, 8, 62] (.weak v17_51)))
def v17_53 : VCode := (.block 4 v17_52)
def v17_54 : VCode := (.seq (.region false r17_37) (.keep [0, 4, 6, 7, 8] (.weak v17_53)))
def v17_55 : VCode := (.block 3 v17_54)
def r17_56 : List VOper := [
  { dst := some 51, op := .mov (.t 7) },
  { dst := some 52, op := .bin .add (.t 51) (.c (.int .i64 1)) },
  { dst := some 7, op := .mov (.t 52) }]
def v17_57 : VCode := (.post [0, 4, 6, 7] (.region false r17_56))
def v17_58 : VCode := (.seq v17_55 v17_57)
def v17_59 : VCode := (.seq v17_36 v17_58)
def v17_60 : VCode := (.loop [0, 4, 6, 7] v17_59)
def v17_61 : VCode := (.keep [0, 4, 6, 7] (.weak v17_60))
def v17_62 : VCode := (.block 2 v17_61)
def v17_63 : VCode := (.seq (.region false r17_31) (.keep [0, 4, 6, 7] (.weak v17_62)))
def r17_64 : List VOper := [
  { dst := some 107, op := .mov (.t 6) },
  { dst := some 108, op := .lenSl (.t 107) },
  { dst := some 109, op := .bin .gtr (.t 108) (.c (.int .i64 32)) }]
def r17_65 : List VOper := [
  { dst := some 2, op := .mov (.c (.nilsl)) },
  { dst := some 3, op := .mov (.c (.int .i64 4)) }]
def v17_66 : VCode := (.seq (.region false r17_65) (.keep [2, 3] (.weak .ret)))
def v17_67 : VCode := (.keep [6] (.weak .skip))
def v17_68 : VCode := (.cond (.t 109) v17_66 v17_67)
def v17_69 : VCode := (.seq (.region false r17_64) (.keep [6, 109] (.weak v17_68)))
def r17_70 : List VOper := [
  { dst := some 110, op := .mov (.t 6) },
  { dst := some 2, op := .mov (.t 110) },
  { dst := some 3, op := .mov (.c (.int .i64 0)) }]
def v17_71 : VCode := (.seq (.region false r17_70) (.keep [2, 3] (.weak .ret)))
def v17_72 : VCode := (.seq v17_69 v17_71)
def v17_73 : VCode := (.seq v17_63 v17_72)
def v17_74 : VCode := (.seq (.region false r17_30) (.keep [0, 4, 6] (.weak v17_73)))
def v17_75 : VCode := (.seq v17_29 v17_74)
def v17_76 : VCode := (.seq (.region false r17_8) (.keep [0, 4] (.weak v17_75)))
def v17_77 : VCode := (.seq v17_7 v17_76)
def v17 : VCode := (.seq (.region false r17_1) (.keep [0] (.weak v17_77)))
theorem hv17 : codeOf Tryd.prog Tryd.f17.ntmps v17 (Tryd.f17.body.getD .skip) = some v17 := by kernel_rfl
theorem ok17 {ds : List PV} {r : PV} {fl : Bool} (h : vwp Tryd.prog v17 (retQ [(2, none), (3, none)] r fl) (initSt ds)) : CallOK Tryd.prog 17 ds r fl :=
  fn_ok Tryd.func17 rfl (by decide) hv17 rfl mixed h

/- ref03_Build -/
def r23_1 : List VOper := [
  { dst := some 4, op := .mov (.c (.str [])) }]
def r23_2 : List VOper := [
  { dst := some 5, op := .mov (.c (.str [])) }]
def r23_3 : List VOper := [
  { dst := some 6, op := .mov (.c (.int .i64 0)) }]
def r23_4 : List VOper := [
  { dst := some 7, op := .mov (.t 6) },
  { dst := some 8, op := .mov (.t 1) },
  { dst := some 9, op := .lenSl (.t 8) },
  { dst := some 10, op := .bin .lss (.t 7) (.t 9) }]
def v23_5 : VCode := (.keep [0, 1, 5, 6] (.weak .skip))
def v23_6 : VCode := (.keep [0, 5] (.weak (.exit 0)))
def v23_7 : VCode := (.cond (.t 10) v23_5 v23_6)
def v23_8 : VCode := (.seq (.region false r23_4) (.keep [0, 1, 5, 6, 10] (.weak v23_7)))
def r23_9 : List VOper := [
  { dst := some 13, op := .mov (.t 6) },
  { dst := some 14, op := .bin .gtr (.t 13) (.c (.int .i64 0)) }]
def r23_10 : List VOper := [
  { dst := some 15, op := .mov (.t 5) },
  { dst := some 16, op := .bin .add (.t 15) (.c (.str [47])) },
  { dst := some 5, op := .mov (.t 16) }]
def v23_11 : VCode := (.post [0, 1, 5, 6] (.region false r23_10))
def v23_12 : VCode := (.keep [0, 1, 5, 6] (.weak .skip))
def v23_13 : VCode := (.cond (.t 14) v23_11 v23_12)
def v23_14 : VCode := (.seq (.region false r23_9) (.keep [0, 1, 5, 6, 14] (.weak v23_13)))
def r23_15 : List VOper := [
  { dst := some 17, op := .mov (.t 5) },
  { dst := some 18, op := .mov (.t 1) },
  { dst := some 19, op := .mov (.t 6) },
  { dst := some 20, op := .indexAddr none (.t 18) (.t 19) },
  { dst := some 21, op := .load none (.t 20) },
  { dst := some 22, op := .bin .add (.t 17) (.t 21) },
  { dst := some 5, op := .mov (.t 22) }]
def v23_16 : VCode := (.post [0, 1, 5, 6] (.region false r23_15))
def v23_17 : VCode := (.seq v23_14 v23_16)
def v23_18 : VCode := (.block 1 v23_17)
def r23_19 : List VOper := [
  { dst := some 11, op := .mov (.t 6) },
  { dst := some 12, op := .bin .add (.t 11) (.c (.int .i64 1)) },
  { dst := some 6, op := .mov (.t 12) }]
def v23_20 : VCode := (.post [0, 1, 5, 6] (.region false r23_19))
def v23_21 : VCode := (.seq v23_18 v23_20)
def v23_22 : VCode := (.seq v23_8 v23_21)
def v23_23 : VCode := (.loop [0, 1, 5, 6] v23_22)
def v23_24 : VCode := (.keep [0, 1, 5, 6] (.weak v23_23))
def v23_25 : VCode := (.block 0 v23_24)
def v23_26 : VCode := (.seq (.region false r23_3) (.keep [0, 1, 5, 6] (.weak v23_25)))
def r23_27 : List VOper := [
  { dst := some 23, op := .mov (.t 0) }]
def r23_28 : List VOper := [
  { dst := some 24, op := .mov (.t 5) },
  { dst := some 25, op := .bin .add (.c (.str [47])) (.t 24) },
  { dst := some 4, op := .mov (.t 25) }]
def v23_29 : VCode := (.seq (.region false r23_28) (.keep [4] (.weak .ret)))
def v23_30 : VCode := (.keep [5] (.weak .skip))
def v23_31 : VCode := (.cond (.t 23) v23_29 v23_30)
def v23_32 : VCode := (.seq (.region false r23_27) (.keep [5, 23] (.weak v23_31)))
def r23_33 : List VOper := [
  { dst := some 26, op := .mov (.t 5) },
  { dst := some 27, op := .bin .eql (.t 26) (.c (.str [])) }]
def r23_34 : List VOper := [
  { dst := some 4, op := .mov (.c (.str [46])) }]
def v23_35 : VCode := (.seq (.region false r23_34) (.keep [4] (.weak .ret)))
def v23_36 : VCode := (.keep [5] (.weak .skip))
def v23_37 : VCode := (.cond (.t 27) v23_35 v23_36)
def v23_38 : VCode := (.seq (.region false r23_33) (.keep [5, 27] (.weak v23_37)))
def r23_39 : List VOper := [
  { dst := some 28, op := .mov (.t 5) },
  { dst := some 4, op := .mov (.t 28) }]
def v23_40 : VCode := (.seq (.region false r23_39) (.keep [4] (.weak .ret)))
def v23_41 : VCode := (.seq v23_38 v23_40)
def v23_42 : VCode := (.seq v23_32 v23_41)
def v23_43 : VCode := (.seq v23_26 v23_42)
def v23_44 : VCode := (.seq (.region false r23_2) (.keep [0, 1, 5] (.weak v23_43)))
def v23 : VCode := (.seq (.region false r23_1) (.keep [0, 1] (.weak v23_44)))
theorem hv23 : codeOf Tryd.prog Tryd.f23.ntmps v23 (Tryd.f23.body.getD .skip) = some v23 := by kernel_rfl
theorem ok23 {ds : List PV} {r : PV} {fl : Bool} (h : vwp Tryd.prog v23 (retQ [(4, none)] r fl) (initSt ds)) : CallOK Tryd.prog 23 ds r fl :=
  fn_ok Tryd.func23 rfl (by decide) hv23 rfl mixed h

/- ref03_Clean -/
def r15_1 : List VOper := [
  { dst := some 2, op := .mov (.c (.str [])) },
  { dst := some 3, op := .mov (.c (.int .i64 0)) }]
def r15_2 : List VOper := [
  { dst := some 7, op := .mov (.t 0) },
  { dst := some 8, op := .call 17 [(.t 7)] },
  { dst := some 6, op := .mov (.t 8) },
  { dst := some 9, op := .extract (.t 6) 0 },
  { dst := some 10, op := .extract (.t 6) 1 },
  { dst := some 4, op := .mov (.t 9) },
  { dst := some 5, op := .mov (.t 10) }]
def r15_3 : List VOper := [
  { dst := some 11, op := .mov (.t 5) },
  { dst := some 12, op := .bin .neq (.t 11) (.c (.int .i64 0)) }]
def r15_4 : List VOper := [
  { dst := some 13, op := .mov (.t 5) },
  { dst := some 2, op := .mov (.c (.str [])) },
  { dst := some 3, op := .mov (.t 13) }]
def v15_5 : VCode := (.seq (.region false r15_4) (.keep [2, 3] (.weak .ret)))
def v15_6 : VCode := (.keep [0, 4] (.weak .skip))
def v15_7 : VCode := (.cond (.t 12) v15_5 v15_6)
def v15_8 : VCode := (.seq (.region false r15_3) (.keep [0, 4, 5, 12] (.weak v15_7)))
def r15_9 : List VOper := [
  { dst := some 14, op := .mov (.t 0) },
  { dst := some 15, op := .call 24 [(.t 14)] },
  { dst := some 16, op := .mov (.t 4) },
  { dst := some 17, op := .call 23 [(.t 15), (.t 16)] },
  { dst := some 2, op := .mov (.t 17) },
  { dst := some 3, op := .mov (.c (.int .i64 0)) }]
def v15_10 : VCode := (.seq (.region false r15_9) (.keep [2, 3] (.weak .ret)))
def v15_11 : VCode := (.seq v15_8 v15_10)
def v15_12 : VCode := (.seq (.region false r15_2) (.keep [0, 4, 5] (.weak v15_11)))
def v15 : VCode := (.seq (.region false r15_1) (.keep [0] (.weak v15_12)))
theorem hv15 : codeOf Tryd.prog Tryd.f15.ntmps v15 (Tryd.f15.body.getD .skip) = some v15 := by kernel_rfl
theorem ok15 {ds : List PV} {r : PV} {fl : Bool} (h : vwp Tryd.prog v15 (retQ [(2, none), (3, none)] r fl) (initSt ds)) : CallOK Tryd.prog 15 ds r fl :=
  fn_ok Tryd.func15 rfl (by decide) hv15 rfl mixed h

/- law03_same -/
def r18_1 : List VOper := [
  { dst := some 4, op := .mov (.c (.bool false)) }]
def r18_2 : List VOper := [
  { dst := some 6, op := .mov (.t 0) },
  { dst := some 7, op := .lenSl (.t 6) },
  { dst := some 8, op := .mov (.t 1) },
  { dst := some 9, op := .lenSl (.t 8) },
  { dst := some 10, op := .bin .neq (.t 7) (.t 9) }]
def r18_3 : List VOper := [
  { dst := some 4, op := .mov (.c (.bool false)) }]
def v18_4 : VCode := (.seq (.region false r18_3) (.keep [4] (.weak .ret)))
def v18_5 : VCode := (.keep [0, 1] (.weak .skip))
def v18_6 : VCode := (.cond (.t 10) v18_4 v18_5)
def v18_7 : VCode := (.seq (.region false r18_2) (.keep [0, 1, 10] (.weak v18_6)))
def r18_8 : List VOper := [
  { dst := some 11, op := .mov (.t 0) },
  { dst := some 12, op := .lenSl (.t 11) },
  { dst := some 13, op := .mov (.c (.int .i64 0)) }]
def r18_9 : List VOper := [
  { dst := some 14, op := .bin .lss (.t 13) (.t 12) }]
def v18_10 : VCode := (.keep [0, 1, 12, 13] (.weak .skip))
def v18_11 : VCode := (.keep [] (.weak (.exit 0)))
def v18_12 : VCode := (.cond (.t 14) v18_10 v18_11)
def r18_13 : List VOper := [
  { dst := some 15, op := .mov (.t 13) },
  { dst := some 5, op := .mov (.t 15) }]
def r18_14 : List VOper := [
  { dst := some 16, op := .mov (.t 0) },
  { dst := some 17, op := .mov (.t 5) },
  { dst := some 18, op := .indexAddr none (.t 16) (.t 17), bef := [0, 1] },
  { dst := some 19, op := .load none (.t 18), bef := [0, 1, 2] },
  { dst := some 20, op := .mov (.t 1) },
  { dst := some 21, op := .mov (.t 5) },
  { dst := some 22, op := .indexAddr none (.t 20) (.t 21), bef := [4, 5] },
  { dst := some 23, op := .load none (.t 22), bef := [4, 5, 6] },
  { dst := some 24, op := .bin .neq (.t 19) (.t 23), bef := [0, 1, 2, 3, 4, 5, 6, 7] }]
def r18_15 : List VOper := [
  { dst := some 4, op := .mov (.c (.bool false)) }]
def v18_16 : VCode := (.seq (.region false r18_15) (.keep [4] (.weak .ret)))
def v18_17 : VCode := (.keep [0, 1, 12, 13] (.weak .skip))
def v18_18 : VCode := (.cond (.t 24) v18_16 v18_17)
def v18_19 : VCode := (.seq (.region true r18_14) (.keep [0, 1, 12, 13, 24] (.weak v18_18)))
def v18_20 : VCode := (.seq (.region false r18_13) (.keep [0, 1, 5, 12, 13] (.weak v18_19)))
def v18_21 : VCode := (.block 1 v18_20)
def r18_22 : List VOper := [
  { dst := some 25, op := .bin .add (.t 13) (.c (.int .i64 1)) },
  { dst := some 13, op := .mov (.t 25) }]
def v18_23 : VCode := (.post [0, 1, 12, 13] (.region false r18_22))
def v18_24 : VCode := (.seq v18_21 v18_23)
def v18_25 : VCode := (.seq v18_12 v18_24)
def v18_26 : VCode := (.seq (.region false r18_9) (.keep [0, 1, 12, 13, 14] (.weak v18_25)))
def v18_27 : VCode := (.loop [0, 1, 12, 13] v18_26)
def v18_28 : VCode := (.keep [0, 1, 12, 13] (.weak v18_27))
def v18_29 : VCode := (.block 0 v18_28)
def v18_30 : VCode := (.seq (.region false r18_8) (.keep [0, 1, 12, 13] (.weak v18_29)))
def r18_31 : List VOper := [
  { dst := some 4, op := .mov (.c (.bool true)) }]
def v18_32 : VCode := (.seq (.region false r18_31) (.keep [4] (.weak .ret)))
def v18_33 : VCode := (.seq v18_30 v18_32)
def v18_34 : VCode := (.seq v18_7 v18_33)
def v18 : VCode := (.seq (.region false r18_1) (.keep [0, 1] (.weak v18_34)))
theorem hv18 : codeOf Tryd.prog Tryd.f18.ntmps v18 (Tryd.f18.body.getD .skip) = some v18 := by kernel_rfl
theorem ok18 {ds : List PV} {r : PV} {fl : Bool} (h : vwp Tryd.prog v18 (retQ [(4, none)] r fl) (initSt ds)) : CallOK Tryd.prog 18 ds r fl :=
  fn_ok Tryd.func18 rfl (by decide) hv18 rfl mixed h

/- law03_PathCleans -/
def r4_1 : List VOper := [
  { dst := some 2, op := .mov (.c (.bool false)) }]
def r4_2 : List VOper := [
  { dst := some 11, op := .mov (.t 0) },
  { dst := some 12, op := .lenStr (.t 11) },
  { dst := some 13, op := .bin .gtr (.t 12) (.c (.int .i64 5000)) }]
def r4_3 : List VOper := [
  { dst := some 14, op := .call 11 [] },
  { dst := some 2, op := .mov (.t 14) }]
def v4_4 : VCode := (.seq (.region false r4_3) (.keep [2] (.weak .ret)))
def v4_5 : VCode := (.keep [0] (.weak .skip))
def v4_6 : VCode := (.cond (.t 13) v4_4 v4_5)
def v4_7 : VCode := (.seq (.region false r4_2) (.keep [0, 13] (.weak v4_6)))
def r4_8 : List VOper := [
  { dst := some 16, op := .mov (.t 0) },
  { dst := some 17, op := .call 14 [(.t 16)] },
  { dst := some 15, op := .mov (.t 17) },
  { dst := some 18, op := .extract (.t 15) 0 },
  { dst := some 19, op := .extract (.t 15) 1 },
  { dst := some 3, op := .mov (.t 18) },
  { dst := some 4, op := .mov (.t 19) }]
def r4_9 : List VOper := [
  { dst := some 21, op := .mov (.t 0) },
  { dst := some 22, op := .call 15 [(.t 21)] },
  { dst := some 20, op := .mov (.t 22) },
  { dst := some 23, op := .extract (.t 20) 0 },
  { dst := some 24, op := .extract (.t 20) 1 },
  { dst := some 5, op := .mov (.t 23) },
  { dst := some 6, op := .mov (.t 24) }]
def r4_10 : List VOper := [
  { dst := some 26, op := .mov (.t 0) },
  { dst := some 27, op := .call 16 [(.t 26)] },
  { dst := some 25, op := .mov (.t 27) },
  { dst := some 28, op := .extract (.t 25) 0 },
  { dst := some 29, op := .extract (.t 25) 1 },
  { dst := some 7, op := .mov (.t 28) },
  { dst := some 8, op := .mov (.t 29) }]
def r4_11 : List VOper := [
  { dst := some 31, op := .mov (.t 0) },
  { dst := some 32, op := .call 17 [(.t 31)] },
  { dst := some 30, op := .mov (.t 32) },
  { dst := some 33, op := .extract (.t 30) 0 },
  { dst := some 34, op := .extract (.t 30) 1 },
  { dst := some 9, op := .mov (.t 33) },
  { dst := some 10, op := .mov (.t 34) }]
def r4_12 : List VOper := [
  { dst := some 35, op := .mov (.t 3) },
  { dst := some 36, op := .mov (.t 5) },
  { dst := some 37, op := .bin .eql (.t 35) (.t 36) },
  { dst := some 38, op := .mov (.t 37) },
  { dst := some 39, op := .mov (.t 4), guard := some (38, true) },
  { dst := some 40, op := .mov (.t 6), guard := some (38, true) },
  { dst := some 41, op := .bin .eql (.t 39) (.t 40), guard := some (38, true) },
  { dst := some 42, op := .pick (.t 38) (.t 41) (.c (.bool false)) },
  { dst := some 43, op := .mov (.t 42) },
  { dst := some 44, op := .mov (.t 7), guard := some (43, true) },
  { dst := some 45, op := .mov (.t 9), guard := some (43, true) },
  { dst := some 46, op := .call 18 [(.t 44), (.t 45)], guard := some (43, true) },
  { dst := some 47, op := .pick (.t 43) (.t 46) (.c (.bool false)) },
  { dst := some 48, op := .mov (.t 47) },
  { dst := some 49, op := .mov (.t 8), guard := some (48, true) },
  { dst := some 50, op := .mov (.t 10), guard := some (48, true) },
  { dst := some 51, op := .bin .eql (.t 49) (.t 50), guard := some (48, true) },
  { dst := some 52, op := .pick (.t 48) (.t 51) (.c (.bool false)) },
  { dst := some 53, op := .mov (.t 52) },
  { dst := some 54, op := .call 11 [], guard := some (53, true) },
  { dst := some 55, op := .pick (.t 53) (.t 54) (.c (.bool false)) },
  { dst := some 2, op := .mov (.t 55) }]
def v4_13 : VCode := (.seq (.region false r4_12) (.keep [2] (.weak .ret)))
def v4_14 : VCode := (.seq (.region false r4_11) (.keep [3, 4, 5, 6, 7, 8, 9, 10] (.weak v4_13)))
def v4_15 : VCode := (.seq (.region false r4_10) (.keep [0, 3, 4, 5, 6, 7, 8] (.weak v4_14)))
def v4_16 : VCode := (.seq (.region false r4_9) (.keep [0, 3, 4, 5, 6] (.weak v4_15)))
def v4_17 : VCode := (.seq (.region false r4_8) (.keep [0, 3, 4] (.weak v4_16)))
def v4_18 : VCode := (.seq v4_7 v4_17)
def v4 : VCode := (.seq (.region false r4_1) (.keep [0] (.weak v4_18)))
theorem hv4 : codeOf Tryd.prog Tryd.f4.ntmps v4 (Tryd.f4.body.getD .skip) = some v4 := by kernel_rfl
theorem ok4 {ds : List PV} {r : PV} {fl : Bool} (h : vwp Tryd.prog v4 (retQ [(2, none)] r fl) (initSt ds)) : CallOK Tryd.prog 4 ds r fl :=
  fn_ok Tryd.func4 rfl (by decide) hv4 rfl mixed h

/- ref03_Join -/
def r20_1 : List VOper := [
  { dst := some 4, op := .mov (.c (.str [])) },
  { dst := some 5, op := .mov (.c (.int .i64 0)) }]
def r20_2 : List VOper := [
  { dst := some 6, op := .mov (.t 1) },
  { dst := some 7, op := .call 24 [(.t 6)] },
  { dst := some 8, op := .mov (.t 7) },
  { dst := some 9, op := .mov (.t 0), guard := some (8, false) },
  { dst := some 10, op := .bin .eql (.t 9) (.c (.str [])), guard := some (8, false) },
  { dst := some 11, op := .pick (.t 8) (.c (.bool true)) (.t 10) }]
def r20_3 : List VOper := [
  { dst := some 12, op := .mov (.t 1) },
  { dst := some 13, op := .call 15 [(.t 12)] },
  { dst := some 14, op := .extract (.t 13) 0 },
  { dst := some 15, op := .extract (.t 13) 1 },
  { dst := some 4, op := .mov (.t 14) },
  { dst := some 5, op := .mov (.t 15) }]
def v20_4 : VCode := (.seq (.region false r20_3) (.keep [4, 5] (.weak .ret)))
def v20_5 : VCode := (.keep [0, 1] (.weak .skip))
def v20_6 : VCode := (.cond (.t 11) v20_4 v20_5)
def v20_7 : VCode := (.seq (.region false r20_2) (.keep [0, 1, 11] (.weak v20_6)))
def r20_8 : List VOper := [
  { dst := some 16, op := .mov (.t 0) },
  { dst := some 17, op := .bin .add (.t 16) (.c (.str [47])) },
  { dst := some 18, op := .mov (.t 1) },
  { dst := some 19, op := .bin .add (.t 17) (.t 18) },
  { dst := some 20, op := .call 15 [(.t 19)] },
  { dst := some 21, op := .extract (.t 20) 0 },
  { dst := some 22, op := .extract (.t 20) 1 },
  { dst := some 4, op := .mov (.t 21) },
  { dst := some 5, op := .mov (.t 22) }]
def v20_9 : VCode := (.seq (.region false r20_8) (.keep [4, 5] (.weak .ret)))
def v20_10 : VCode := (.seq v20_7 v20_9)
def v20 : VCode := (.seq (.region false r20_1) (.keep [0, 1] (.weak v20_10)))
theorem hv20 : codeOf Tryd.prog Tryd.f20.ntmps v20 (Tryd.f20.body.getD .skip) = some v20 := by kernel_rfl
theorem ok20 {ds : List PV} {r : PV} {fl : Bool} (h : vwp Tryd.prog v20 (retQ [(4, none), (5, none)] r fl) (initSt ds)) : CallOK Tryd.prog 20 ds r fl :=
  fn_ok Tryd.func20 rfl (by decide) hv20 rfl mixed h

/- law03_PathJoins -/
def r5_1 : List VOper := [
  { dst := some 4, op := .mov (.c (.bool false)) }]
def r5_2 : List VOper := [
  { dst := some 9, op := .mov (.t 0) },
  { dst := some 10, op := .lenStr (.t 9) },
  { dst := some 11, op := .bin .gtr (.t 10) (.c (.int .i64 5000)) },
  { dst := some 12, op := .mov (.t 11) },
  { dst := some 13, op := .mov (.t 1), guard := some (12, false) },
  { dst := some 14, op := .lenStr (.t 13), guard := some (12, false) },
  { dst := some 15, op := .bin .gtr (.t 14) (.c (.int .i64 5000)), guard := some (12, false) },
  { dst := some 16, op := .pick (.t 12) (.c (.bool true)) (.t 15) }]
def r5_3 : List VOper := [
  { dst := some 17, op := .call 11 [] },
  { dst := some 4, op := .mov (.t 17) }]
def v5_4 : VCode := (.seq (.region false r5_3) (.keep [4] (.weak .ret)))
def v5_5 : VCode := (.keep [0, 1] (.weak .skip))
def v5_6 : VCode := (.cond (.t 16) v5_4 v5_5)
def v5_7 : VCode := (.seq (.region false r5_2) (.keep [0, 1, 16] (.weak v5_6)))
def r5_8 : List VOper := [
  { dst := some 19, op := .mov (.t 0) },
  { dst := some 20, op := .mov (.t 1) },
  { dst := some 21, op := .call 19 [(.t 19), (.t 20)] },
  { dst := some 18, op := .mov (.t 21) },
  { dst := some 22, op := .extract (.t 18) 0 },
  { dst := some 23, op := .extract (.t 18) 1 },
  { dst := some 5, op := .mov (.t 22) },
  { dst := some 6, op := .mov (.t 23) }]
def r5_9 : List VOper := [
  { dst := some 25, op := .mov (.t 0) },
  { dst := some 26, op := .mov (.t 1) },
  { dst := some 27, op := .call 20 [(.t 25), (.t 26)] },
  { dst := some 24, op := .mov (.t 27) },
  { dst := some 28, op := .extract (.t 24) 0 },
  { dst := some 29, op := .extract (.t 24) 1 },
  { dst := some 7, op := .mov (.t 28) },
  { dst := some 8, op := .mov (.t 29) }]
def r5_10 : List VOper := [
  { dst := some 30, op := .mov (.t 5) },
  { dst := some 31, op := .mov (.t 7) },
  { dst := some 32, op := .bin .eql (.t 30) (.t 31) },
  { dst := some 33, op := .mov (.t 32) },
  { dst := some 34, op := .mov (.t 6), guard := some (33, true) },
  { dst := some 35, op := .mov (.t 8), guard := some (33, true) },
  { dst := some 36, op := .bin .eql (.t 34) (.t 35), guard := some (33, true) },
  { dst := some 37, op := .pick (.t 33) (.t 36) (.c (.bool false)) },
  { dst := some 38, op := .mov (.t 37) },
  { dst := some 39, op := .call 11 [], guard := some (38, true) },
  { dst := some 40, op := .pick (.t 38) (.t 39) (.c (.bool false)) },
  { dst := some 4, op := .mov (.t 40) }]
def v5_11 : VCode := (.seq (.region false r5_10) (.keep [4] (.weak .ret)))
def v5_12 : VCode := (.seq (.region false r5_9) (.keep [5, 6, 7, 8] (.weak v5_11)))
def v5_13 : VCode := (.seq (.region false r5_8) (.keep [0, 1, 5, 6] (.weak v5_12)))
def v5_14 : VCode := (.seq v5_7 v5_13)
def v5 : VCode := (.seq (.region false r5_1) (.keep [0, 1] (.weak v5_14)))
theorem hv5 : codeOf Tryd.prog Tryd.f5.ntmps v5 (Tryd.f5.body.getD .skip) = some v5 := by kernel_rfl
theorem ok5 {ds : List PV} {r : PV} {fl : Bool} (h : vwp Tryd.prog v5 (retQ [(4, none)] r fl) (initSt ds)) : CallOK Tryd.prog 5 ds r fl :=
  fn_ok Tryd.func5 rfl (by decide) hv5 rfl mixed h

/- ref03_Under -/
def r22_1 : List VOper := [
  { dst := some 4, op := .mov (.c (.bool false)) }]
def r22_2 : List VOper := [
  { dst := some 11, op := .mov (.t 0) },
  { dst := some 12, op := .call 17 [(.t 11)] },
  { dst := some 10, op := .mov (.t 12) },
  { dst := some 13, op := .extract (.t 10) 0 },
  { dst := some 14, op := .extract (.t 10) 1 },
  { dst := some 5, op := .mov (.t 13) },
  { dst := some 6, op := .mov (.t 14) }]
def r22_3 : List VOper := [
  { dst := some 16, op := .mov (.t 1) },
  { dst := some 17, op := .call 17 [(.t 16)] },
  { dst := some 15, op := .mov (.t 17) },
  { dst := some 18, op := .extract (.t 15) 0 },
  { dst := some 19, op := .extract (.t 15) 1 },
  { dst := some 7, op := .mov (.t 18) },
  { dst := some 8, op := .mov (.t 19) }]
def r22_4 : List VOper := [
  { dst := some 20, op := .mov (.t 6) },
  { dst := some 21, op := .bin .neq (.t 20) (.c (.int .i64 0)) },
  { dst := some 22, op := .mov (.t 21) },
  { dst := some 23, op := .mov (.t 8), guard := some (22, false) },
  { dst := some 24, op := .bin .neq (.t 23) (.c (.int .i64 0)), guard := some (22, false) },
  { dst := some 25, op := .pick (.t 22) (.c (.bool true)) (.t 24) },
  { dst := some 26, op := .mov (.t 25) },
  { dst := some 27, op := .mov (.t 0), guard := some (26, false) },
  { dst := some 28, op := .call 24 [(.t 27)], guard := some (26, false) },
  { dst := some 29, op := .not (.t 28), guard := some (26, false) },
  { dst := some 30, op := .pick (.t 26) (.c (.bool true)) (.t 29) },
  { dst := some 31, op := .mov (.t 30) },
  { dst := some 32, op := .mov (.t 1), guard := some (31, false) },
  { dst := some 33, op := .call 24 [(.t 32)], guard := some (31, false) },
  { dst := some 34, op := .not (.t 33), guard := some (31, false) },
  { dst := some 35, op := .pick (.t 31) (.c (.bool true)) (.t 34) },
  { dst := some 36, op := .mov (.t 35) },
  { dst := some 37, op := .mov (.t 5), guard := some (36, false) },
  { dst := some 38, op := .lenSl (.t 37), guard := some (36, false) },
  { dst := some 39, op := .mov (.t 7), guard := some (36, false) },
  { dst := some 40, op := .lenSl (.t 39), guard := some (36, false) },
  { dst := some 41, op := .bin .gtr (.t 38) (.t 40), guard := some (36, false) },
  { dst := some 42, op := .pick (.t 36) (.c (.bool true)) (.t 41) }]
def r22_5 : List VOper := [
  { dst := some 4, op := .mov (.c (.bool false)) }]
def v22_6 : VCode := (.seq (.region false r22_5) (.keep [4] (.weak .ret)))
def v22_7 : VCode := (.keep [5, 7] (.weak .skip))
def v22_8 : VCode := (.cond (.t 42) v22_6 v22_7)
def v22_9 : VCode := (.seq (.region false r22_4) (.keep [5, 7, 42] (.weak v22_8)))
def r22_10 : List VOper := [
  { dst := some 9, op := .mov (.c (.int .i64 0)) }]
def r22_11 : List VOper := [
  { dst := some 43, op := .mov (.t 9) },
  { dst := some 44, op := .mov (.t 5) },
  { dst := some 45, op := .lenSl (.t 44) },
  { dst := some 46, op := .bin .lss (.t 43) (.t 45) }]
def v22_12 : VCode := (.keep [5, 7, 9] (.weak .skip))
def v22_13 : VCode := (.keep [] (.weak (.exit 0)))
def v22_14 : VCode := (.cond (.t 46) v22_12 v22_13)
def v22_15 : VCode := (.seq (.region false r22_11) (.keep [5, 7, 9, 46] (.weak v22_14)))
def r22_16 : List VOper := [
  { dst := some 49, op := .mov (.t 5) },
  { dst := some 50, op := .mov (.t 9) },
  { dst := some 51, op := .indexAddr none (.t 49) (.t 50), bef := [0, 1] },
  { dst := some 52, op := .load none (.t 51), bef := [0, 1, 2] },
  { dst := some 53, op := .mov (.t 7) },
  { dst := some 54, op := .mov (.t 9) },
  { dst := some 55, op := .indexAddr none (.t 53) (.t 54), bef := [4, 5] },
  { dst := some 56, op := .load none (.t 55), bef := [4, 5, 6] },
  { dst := some 57, op := .bin .neq (.t 52) (.t 56), bef := [0, 1, 2, 3, 4, 5, 6, 7] }]
def r22_17 : List VOper := [
  { dst := some 4, op := .mov (.c (.bool false)) }]
def v22_18 : VCode := (.seq (.region false r22_17) (.keep [4] (.weak .ret)))
def v22_19 : VCode := (.keep [5, 7, 9] (.weak .skip))
def v22_20 : VCode := (.cond (.t 57) v22_18 v22_19)
def v22_21 : VCode := (.seq (.region true r22_16) (.keep [5, 7, 9, 57] (.weak v22_20)))
def v22_22 : VCode := (.block 1 v22_21)
def r22_23 : List VOper := [
  { dst := some 47, op := .mov (.t 9) },
  { dst := some 48, op := .bin .add (.t 47) (.c (.int .i64 1)) },
  { dst := some 9, op := .mov (.t 48) }]
def v22_24 : VCode := (.post [5, 7, 9] (.region false r22_23))
def v22_25 : VCode := (.seq v22_22 v22_24)
def v22_26 : VCode := (.seq v22_15 v22_25)
def v22_27 : VCode := (.loop [5, 7, 9] v22_26)
def v22_28 : VCode := (.keep [5, 7, 9] (.weak v22_27))
def v22_29 : VCode := (.block 0 v22_28)
def v22_30 : VCode := (.seq (.region false r22_10) (.keep [5, 7, 9] (.weak v22_29)))
def r22_31 : List VOper := [
  { dst := some 4, op := .mov (.c (.bool true)) }]
def v22_32 : VCode := (.seq (.region false r22_31) (.keep [4] (.weak .ret)))
def v22_33 : VCode := (.seq v22_30 v22_32)
def v22_34 : VCode := (.seq v22_9 v22_33)
def v22_35 : VCode := (.seq (.region false r22_3) (.keep [0, 1, 5, 6, 7, 8] (.weak v22_34)))
def v22_36 : VCode := (.seq (.region false r22_2) (.keep [0, 1, 5, 6] (.weak v22_35)))
def v22 : VCode := (.seq (.region false r22_1) (.keep [0, 1] (.weak v22_36)))
theorem hv22 : codeOf Tryd.prog Tryd.f22.ntmps v22 (Tryd.f22.body.getD .skip) = some v22 := by kernel_rfl
theorem ok22 {ds : List PV} {r : PV} {fl : Bool} (h : vwp Tryd.prog v22 (retQ [(4, none)] r fl) (initSt ds)) : CallOK Tryd.prog 22 ds r fl :=
  fn_ok Tryd.func22 rfl (by decide) hv22 rfl mixed h

/- law03_PathContains -/
def r6_1 : List VOper := [
  { dst := some 4, op := .mov (.c (.bool false)) }]
def r6_2 : List VOper := [
  { dst := some 5, op := .mov (.t 0) },
  { dst := some 6, op := .lenStr (.t 5) },
  { dst := some 7, op := .bin .gtr (.t 6) (.c (.int .i64 5000)) },
  { dst := some 8, op := .mov (.t 7) },
  { dst := some 9, op := .mov (.t 1), guard := some (8, false) },
  { dst := some 10, op := .lenStr (.t 9), guard := some (8, false) },
  { dst := some 11, op := .bin .gtr (.t 10) (.c (.int .i64 5000)), guard := some (8, false) },
  { dst := some 12, op := .pick (.t 8) (.c (.bool true)) (.t 11) }]
def r6_3 : List VOper := [
  { dst := some 13, op := .call 11 [] },
  { dst := some 4, op := .mov (.t 13) }]
def v6_4 : VCode := (.seq (.region false r6_3) (.keep [4] (.weak .ret)))
def v6_5 : VCode := (.keep [0, 1] (.weak .skip))
def v6_6 : VCode := (.cond (.t 12) v6_4 v6_5)
def v6_7 : VCode := (.seq (.region false r6_2) (.keep [0, 1, 12] (.weak v6_6)))
def r6_8 : List VOper := [
  { dst := some 14, op := .mov (.t 0) },
  { dst := some 15, op := .mov (.t 1) },
  { dst := some 16, op := .call 21 [(.t 14), (.t 15)] },
  { dst := some 17, op := .mov (.t 0) },
  { dst := some 18, op := .mov (.t 1) },
  { dst := some 19, op := .call 22 [(.t 17), (.t 18)] },
  { dst := some 20, op := .beq false (.t 16) (.t 19) },
  { dst := some 21, op := .mov (.t 20) },
  { dst := some 22, op := .call 11 [], guard := some (21, true) },
  { dst := some 23, op := .pick (.t 21) (.t 22) (.c (.bool false)) },
  { dst := some 4, op := .mov (.t 23) }]
def v6_9 : VCode := (.seq (.region false r6_8) (.keep [4] (.weak .ret)))
def v6_10 : VCode := (.seq v6_7 v6_9)
def v6 : VCode := (.seq (.region false r6_1) (.keep [0, 1] (.weak v6_10)))
theorem hv6 : codeOf Tryd.prog Tryd.f6.ntmps v6 (Tryd.f6.body.getD .skip) = some v6 := by kernel_rfl
theorem ok6 {ds : List PV} {r : PV} {fl : Bool} (h : vwp Tryd.prog v6 (retQ [(4, none)] r fl) (initSt ds)) : CallOK Tryd.prog 6 ds r fl :=
  fn_ok Tryd.func6 rfl (by decide) hv6 rfl mixed h

/- law03_PathSettles -/
def r7_1 : List VOper := [
  { dst := some 2, op := .mov (.c (.bool false)) }]
def r7_2 : List VOper := [
  { dst := some 9, op := .mov (.t 0) },
  { dst := some 10, op := .lenStr (.t 9) },
  { dst := some 11, op := .bin .gtr (.t 10) (.c (.int .i64 5000)) }]
def r7_3 : List VOper := [
  { dst := some 12, op := .call 11 [] },
  { dst := some 2, op := .mov (.t 12) }]
def v7_4 : VCode := (.seq (.region false r7_3) (.keep [2] (.weak .ret)))
def v7_5 : VCode := (.keep [0] (.weak .skip))
def v7_6 : VCode := (.cond (.t 11) v7_4 v7_5)
def v7_7 : VCode := (.seq (.region false r7_2) (.keep [0, 11] (.weak v7_6)))
def r7_8 : List VOper := [
  { dst := some 14, op := .mov (.t 0) },
  { dst := some 15, op := .call 14 [(.t 14)] },
  { dst := some 13, op := .mov (.t 15) },
  { dst := some 16, op := .extract (.t 13) 0 },
  { dst := some 17, op := .extract (.t 13) 1 },
  { dst := some 3, op := .mov (.t 16) },
  { dst := some 4, op := .mov (.t 17) }]
def r7_9 : List VOper := [
  { dst := some 18, op := .mov (.t 4) },
  { dst := some 19, op := .bin .neq (.t 18) (.c (.int .i64 0)) }]
def r7_10 : List VOper := [
  { dst := some 20, op := .mov (.t 3) },
  { dst := some 21, op := .bin .eql (.t 20) (.c (.str [])) },
  { dst := some 22, op := .mov (.t 21) },
  { dst := some 23, op := .call 11 [], guard := some (22, true) },
  { dst := some 24, op := .pick (.t 22) (.t 23) (.c (.bool false)) },
  { dst := some 2, op := .mov (.t 24) }]
def v7_11 : VCode := (.seq (.region false r7_10) (.keep [2] (.weak .ret)))
def v7_12 : VCode := (.keep [0, 3] (.weak .skip))
def v7_13 : VCode := (.cond (.t 19) v7_11 v7_12)
def v7_14 : VCode := (.seq (.region false r7_9) (.keep [0, 3, 19] (.weak v7_13)))
def r7_15 : List VOper := [
  { dst := some 26, op := .mov (.t 3) },
  { dst := some 27, op := .call 14 [(.t 26)] },
  { dst := some 25, op := .mov (.t 27) },
  { dst := some 28, op := .extract (.t 25) 0 },
  { dst := some 29, op := .extract (.t 25) 1 },
  { dst := some 5, op := .mov (.t 28) },
  { dst := some 6, op := .mov (.t 29) }]
def r7_16 : List VOper := [
  { dst := some 31, op := .mov (.t 3) },
  { dst := some 32, op := .call 16 [(.t 31)] },
  { dst := some 30, op := .mov (.t 32) },
  { dst := some 33, op := .extract (.t 30) 0 },
  { dst := some 34, op := .extract (.t 30) 1 },
  { dst := some 7, op := .mov (.t 33) },
  { dst := some 8, op := .mov (.t 34) }]
def r7_17 : List VOper := [
  { dst := some 35, op := .mov (.t 6) },
  { dst := some 36, op := .bin .eql (.t 35) (.c (.int .i64 0)) },
  { dst := some 37, op := .mov (.t 36) },
  { dst := some 38, op := .mov (.t 3), guard := some (37, true) },
  { dst := some 39, op := .mov (.t 5), guard := some (37, true) },
  { dst := some 40, op := .bin .eql (.t 38) (.t 39), guard := some (37, true) },
  { dst := some 41, op := .pick (.t 37) (.t 40) (.c (.bool false)) },
  { dst := some 42, op := .mov (.t 41) },
  { dst := some 43, op := .mov (.t 8), guard := some (42, true) },
  { dst := some 44, op := .bin .eql (.t 43) (.c (.int .i64 0)), guard := some (42, true) },
  { dst := some 45, op := .pick (.t 42) (.t 44) (.c (.bool false)) },
  { dst := some 46, op := .mov (.t 45) },
  { dst := some 47, op := .mov (.t 0), guard := some (46, true) },
  { dst := some 48, op := .call 24 [(.t 47)], guard := some (46, true) },
  { dst := some 49, op := .mov (.t 7), guard := some (46, true) },
  { dst := some 50, op := .call 23 [(.t 48), (.t 49)], guard := some (46, true) },
  { dst := some 51, op := .mov (.t 3), guard := some (46, true) },
  { dst := some 52, op := .bin .eql (.t 50) (.t 51), guard := some (46, true) },
  { dst := some 53, op := .pick (.t 46) (.t 52) (.c (.bool false)) },
  { dst := some 54, op := .mov (.t 53) },
  { dst := some 55, op := .call 11 [], guard := some (54, true) },
  { dst := some 56, op := .pick (.t 54) (.t 55) (.c (.bool false)) },
  { dst := some 2, op := .mov (.t 56) }]
def v7_18 : VCode := (.seq (.region false r7_17) (.keep [2] (.weak .ret)))
def v7_19 : VCode := (.seq (.region false r7_16) (.keep [0, 3, 5, 6, 7, 8] (.weak v7_18)))
def v7_20 : VCode := (.seq (.region false r7_15) (.keep [0, 3, 5, 6] (.weak v7_19)))
def v7_21 : VCode := (.seq v7_14 v7_20)
def v7_22 : VCode := (.seq (.region false r7_8) (.keep [0, 3, 4] (.weak v7_21)))
def v7_23 : VCode := (.seq v7_7 v7_22)
def v7 : VCode := (.seq (.region false r7_1) (.keep [0] (.weak v7_23)))
theorem hv7 : codeOf Tryd.prog Tryd.f7.ntmps v7 (Tryd.f7.body.getD .skip) = some v7 := by kernel_rfl
theorem ok7 {ds : List PV} {r : PV} {fl : Bool} (h : vwp Tryd.prog v7 (retQ [(2, none)] r fl) (initSt ds)) : CallOK Tryd.prog 7 ds r fl :=
  fn_ok Tryd.func7 rfl (by decide) hv7 rfl mixed h

/- law03_PathNests -/
def r8_1 : List VOper := [
  { dst := some 6, op := .mov (.c (.bool false)) }]
def r8_2 : List VOper := [
  { dst := some 13, op := .mov (.t 0) },
  { dst := some 14, op := .lenStr (.t 13) },
  { dst := some 15, op := .bin .gtr (.t 14) (.c (.int .i64 300)) },
  { dst := some 16, op := .mov (.t 15) },
  { dst := some 17, op := .mov (.t 1), guard := some (16, false) },
  { dst := some 18, op := .lenStr (.t 17), guard := some (16, false) },
  { dst := some 19, op := .bin .gtr (.t 18) (.c (.int .i64 300)), guard := some (16, false) },
  { dst := some 20, op := .pick (.t 16) (.c (.bool true)) (.t 19) },
  { dst := some 21, op := .mov (.t 20) },
  { dst := some 22, op := .mov (.t 2), guard := some (21, false) },
  { dst := some 23, op := .lenStr (.t 22), guard := some (21, false) },
  { dst := some 24, op := .bin .gtr (.t 23) (.c (.int .i64 300)), guard := some (21, false) },
  { dst := some 25, op := .pick (.t 21) (.c (.bool true)) (.t 24) },
  { dst := some 26, op := .mov (.t 25) },
  { dst := some 27, op := .mov (.t 2), guard := some (26, false) },
  { dst := some 28, op := .call 24 [(.t 27)], guard := some (26, false) },
  { dst := some 29, op := .pick (.t 26) (.c (.bool true)) (.t 28) },
  { dst := some 30, op := .mov (.t 29) },
  { dst := some 31, op := .mov (.t 1), guard := some (30, false) },
  { dst := some 32, op := .call 24 [(.t 31)], guard := some (30, false) },
  { dst := some 33, op := .not (.t 32), guard := some (30, false) },
  { dst := some 34, op := .pick (.t 30) (.c (.bool true)) (.t 33) }]
def r8_3 : List VOper := [
  { dst := some 35, op := .call 11 [] },
  { dst := some 6, op := .mov (.t 35) }]
def v8_4 : VCode := (.seq (.region false r8_3) (.keep [6] (.weak .ret)))
def v8_5 : VCode := (.keep [0, 1, 2] (.weak .skip))
def v8_6 : VCode := (.cond (.t 34) v8_4 v8_5)
def v8_7 : VCode := (.seq (.region false r8_2) (.keep [0, 1, 2, 34] (.weak v8_6)))
def r8_8 : List VOper := [
  { dst := some 36, op := .mov (.t 2) },
  { dst := some 37, op := .call 25 [(.t 36)] },
  { dst := some 7, op := .mov (.t 37) }]
def r8_9 : List VOper := [
  { dst := some 38, op := .mov (.t 7) },
  { dst := some 39, op := .lenSl (.t 38) },
  { dst := some 40, op := .mov (.c (.int .i64 0)) }]
def r8_10 : List VOper := [
  { dst := some 41, op := .bin .lss (.t 40) (.t 39) }]
def v8_11 : VCode := (.keep [0, 1, 2, 7, 39, 40] (.weak .skip))
def v8_12 : VCode := (.keep [0, 1, 2] (.weak (.exit 0)))
def v8_13 : VCode := (.cond (.t 41) v8_11 v8_12)
def r8_14 : List VOper := [
  { dst := some 42, op := .mov (.t 40) },
  { dst := some 8, op := .mov (.t 42) }]
def r8_15 : List VOper := [
  { dst := some 43, op := .mov (.t 7) },
  { dst := some 44, op := .mov (.t 8) },
  { dst := some 45, op := .indexAddr none (.t 43) (.t 44) },
  { dst := some 46, op := .load none (.t 45) },
  { dst := some 47, op := .bin .eql (.t 46) (.c (.str [46, 46])) }]
def r8_16 : List VOper := [
  { dst := some 48, op := .call 11 [] },
  { dst := some 6, op := .mov (.t 48) }]
def v8_17 : VCode := (.seq (.region false r8_16) (.keep [6] (.weak .ret)))
def v8_18 : VCode := (.keep [0, 1, 2, 7, 39, 40] (.weak .skip))
def v8_19 : VCode := (.cond (.t 47) v8_17 v8_18)
def v8_20 : VCode := (.seq (.region false r8_15) (.keep [0, 1, 2, 7, 39, 40, 47] (.weak v8_19)))
def v8_21 : VCode := (.seq (.region false r8_14) (.keep [0, 1, 2, 7, 8, 39, 40] (.weak v8_20)))
def v8_22 : VCode := (.block 1 v8_21)
def r8_23 : List VOper := [
  { dst := some 49, op := .bin .add (.t 40) (.c (.int .i64 1)) },
  { dst := some 40, op := .mov (.t 49) }]
def v8_24 : VCode := (.post [0, 1, 2, 7, 39, 40] (.region false r8_23))
def v8_25 : VCode := (.seq v8_22 v8_24)
def v8_26 : VCode := (.seq v8_13 v8_25)
def v8_27 : VCode := (.seq (.region false r8_10) (.keep [0, 1, 2, 7, 39, 40, 41] (.weak v8_26)))
def v8_28 : VCode := (.loop [0, 1, 2, 7, 39, 40] v8_27)
def v8_29 : VCode := (.keep [0, 1, 2, 7, 39, 40] (.weak v8_28))
def v8_30 : VCode := (.block 0 v8_29)
def v8_31 : VCode := (.seq (.region false r8_9) (.keep [0, 1, 2, 7, 39, 40] (.weak v8_30)))
def r8_32 : List VOper := [
  { dst := some 51, op := .mov (.t 1) },
  { dst := some 52, op := .mov (.t 2) },
  { dst := some 53, op := .call 19 [(.t 51), (.t 52)] },
  { dst := some 50, op := .mov (.t 53) },
  { dst := some 54, op := .extract (.t 50) 0 },
  { dst := some 55, op := .extract (.t 50) 1 },
  { dst := some 9, op := .mov (.t 54) },
  { dst := some 10, op := .mov (.t 55) }]
def r8_33 : List VOper := [
  { dst := some 57, op := .mov (.t 1) },
  { dst := some 58, op := .call 14 [(.t 57)] },
  { dst := some 56, op := .mov (.t 58) },
  { dst := some 59, op := .extract (.t 56) 0 },
  { dst := some 60, op := .extract (.t 56) 1 },
  { dst := some 11, op := .mov (.t 59) },
  { dst := some 12, op := .mov (.t 60) }]
def r8_34 : List VOper := [
  { dst := some 61, op := .mov (.t 10) },
  { dst := some 62, op := .bin .neq (.t 61) (.c (.int .i64 0)) },
  { dst := some 63, op := .mov (.t 62) },
  { dst := some 64, op := .mov (.t 12), guard := some (63, false) },
  { dst := some 65, op := .bin .neq (.t 64) (.c (.int .i64 0)), guard := some (63, false) },
  { dst := some 66, op := .pick (.t 63) (.c (.bool true)) (.t 65) }]
def r8_35 : List VOper := [
  { dst := some 67, op := .call 11 [] },
  { dst := some 6, op := .mov (.t 67) }]
def v8_36 : VCode := (.seq (.region false r8_35) (.keep [6] (.weak .ret)))
def v8_37 : VCode := (.keep [0, 1, 9] (.weak .skip))
def v8_38 : VCode := (.cond (.t 66) v8_36 v8_37)
def v8_39 : VCode := (.seq (.region false r8_34) (.keep [0, 1, 9, 66] (.weak v8_38)))
def v8_40 : VCode := (.seq (.region false r8_33) (.keep [0, 1, 9, 10, 12] (.weak v8_39)))
def r8_41 : List VOper := [
  { dst := some 68, op := .mov (.t 1) },
  { dst := some 69, op := .mov (.t 9) },
  { dst := some 70, op := .call 21 [(.t 68), (.t 69)] },
  { dst := some 71, op := .mov (.t 70) },
  { dst := some 72, op := .mov (.t 0), guard := some (71, true) },
  { dst := some 73, op := .mov (.t 1), guard := some (71, true) },
  { dst := some 74, op := .call 21 [(.t 72), (.t 73)], guard := some (71, true) },
  { dst := some 75, op := .not (.t 74), guard := some (71, true) },
  { dst := some 76, op := .mov (.t 75), guard := some (71, true) },
  { dst := some 77, op := .mov (.t 0), guard := some (76, false) },
  { dst := some 78, op := .mov (.t 9), guard := some (76, false) },
  { dst := some 79, op := .call 21 [(.t 77), (.t 78)], guard := some (76, false) },
  { dst := some 80, op := .pick (.t 76) (.c (.bool true)) (.t 79), guard := some (71, true) },
  { dst := some 81, op := .pick (.t 71) (.t 80) (.c (.bool false)) },
  { dst := some 82, op := .mov (.t 81) },
  { dst := some 83, op := .call 11 [], guard := some (82, true) },
  { dst := some 84, op := .pick (.t 82) (.t 83) (.c (.bool false)) },
  { dst := some 6, op := .mov (.t 84) }]
def v8_42 : VCode := (.seq (.region false r8_41) (.keep [6] (.weak .ret)))
def v8_43 : VCode := (.seq v8_40 v8_42)
def v8_44 : VCode := (.seq (.region false r8_32) (.keep [0, 1, 9, 10] (.weak v8_43)))
def v8_45 : VCode := (.seq v8_31 v8_44)
def v8_46 : VCode := (.seq (.region false r8_8) (.keep [0, 1, 2, 7] (.weak v8_45)))
def v8_47 : VCode := (.seq v8_7 v8_46)
def v8 : VCode := (.seq (.region false r8_1) (.keep [0, 1, 2] (.weak v8_47)))
theorem hv8 : codeOf Tryd.prog Tryd.f8.ntmps v8 (Tryd.f8.body.getD .skip) = some v8 := by kernel_rfl
theorem ok8 {ds : List PV} {r : PV} {fl : Bool} (h : vwp Tryd.prog v8 (retQ [(6, none)] r fl) (initSt ds)) : CallOK Tryd.prog 8 ds r fl :=
  fn_ok Tryd.func8 rfl (by decide) hv8 rfl mixed h

/- ref03_Base -/
def r27_1 : List VOper := [
  { dst := some 2, op := .mov (.c (.str [])) }]
def r27_2 : List VOper := [
  { dst := some 6, op := .mov (.t 0) },
  { dst := some 7, op := .call 17 [(.t 6)] },
  { dst := some 5, op := .mov (.t 7) },
  { dst := some 8, op := .extract (.t 5) 0 },
  { dst := some 9, op := .extract (.t 5) 1 },
  { dst := some 3, op := .mov (.t 8) },
  { dst := some 4, op := .mov (.t 9) }]
def r27_3 : List VOper := [
  { dst := some 10, op := .mov (.t 4) },
  { dst := some 11, op := .bin .neq (.t 10) (.c (.int .i64 0)) }]
def r27_4 : List VOper := [
  { dst := some 2, op := .mov (.c (.str [])) }]
def v27_5 : VCode := (.seq (.region false r27_4) (.keep [2] (.weak .ret)))
def v27_6 : VCode := (.keep [0, 3] (.weak .skip))
def v27_7 : VCode := (.cond (.t 11) v27_5 v27_6)
def v27_8 : VCode := (.seq (.region false r27_3) (.keep [0, 3, 11] (.weak v27_7)))
def r27_9 : List VOper := [
  { dst := some 12, op := .mov (.t 3) },
  { dst := some 13, op := .lenSl (.t 12) },
  { dst := some 14, op := .bin .eql (.t 13) (.c (.int .i64 0)) }]
def r27_10 : List VOper := [
  { dst := some 15, op := .mov (.t 0) },
  { dst := some 16, op := .call 24 [(.t 15)] },
  { dst := some 17, op := .call 23 [(.t 16), (.c (.nilsl))] },
  { dst := some 2, op := .mov (.t 17) }]
def v27_11 : VCode := (.seq (.region false r27_10) (.keep [2] (.weak .ret)))
def v27_12 : VCode := (.keep [3] (.weak .skip))
def v27_13 : VCode := (.cond (.t 14) v27_11 v27_12)
def v27_14 : VCode := (.seq (.region false r27_9) (.keep [0, 3, 14] (.weak v27_13)))
def r27_15 : List VOper := [
  { dst := some 18, op := .mov (.t 3) },
  { dst := some 19, op := .mov (.t 3) },
  { dst := some 20, op := .lenSl (.t 19) },
  { dst := some 21, op := .bin .sub (.t 20) (.c (.int .i64 1)) },
  { dst := some 22, op := .indexAddr none (.t 18) (.t 21) },
  { dst := some 23, op := .load none (.t 22) },
  { dst := some 2, op := .mov (.t 23) }]
def v27_16 : VCode := (.seq (.region false r27_15) (.keep [2] (.weak .ret)))
def v27_17 : VCode := (.seq v27_14 v27_16)
def v27_18 : VCode := (.seq v27_8 v27_17)
def v27_19 : VCode := (.seq (.region false r27_2) (.keep [0, 3, 4] (.weak v27_18)))
def v27 : VCode := (.seq (.region false r27_1) (.keep [0] (.weak v27_19)))
theorem hv27 : codeOf Tryd.prog Tryd.f27.ntmps v27 (Tryd.f27.body.getD .skip) = some v27 := by kernel_rfl
theorem ok27 {ds : List PV} {r : PV} {fl : Bool} (h : vwp Tryd.prog v27 (retQ [(2, none)] r fl) (initSt ds)) : CallOK Tryd.prog 27 ds r fl :=
  fn_ok Tryd.func27 rfl (by decide) hv27 rfl mixed h

/- path_Dir -/
def r28_1 : List VOper := [
  { dst := some 2, op := .mov (.c (.str [])) }]
def r28_2 : List VOper := [
  { dst := some 6, op := .mov (.t 0) },
  { dst := some 7, op := .call 16 [(.t 6)] },
  { dst := some 5, op := .mov (.t 7) },
  { dst := some 8, op := .extract (.t 5) 0 },
  { dst := some 9, op := .extract (.t 5) 1 },
  { dst := some 3, op := .mov (.t 8) },
  { dst := some 4, op := .mov (.t 9) }]
def r28_3 : List VOper := [
  { dst := some 10, op := .mov (.t 4) },
  { dst := some 11, op := .bin .neq (.t 10) (.c (.int .i64 0)) }]
def r28_4 : List VOper := [
  { dst := some 2, op := .mov (.c (.str [])) }]
def v28_5 : VCode := (.seq (.region false r28_4) (.keep [2] (.weak .ret)))
def v28_6 : VCode := (.keep [0, 3] (.weak .skip))
def v28_7 : VCode := (.cond (.t 11) v28_5 v28_6)
def v28_8 : VCode := (.seq (.region false r28_3) (.keep [0, 3, 11] (.weak v28_7)))
def r28_9 : List VOper := [
  { dst := some 12, op := .mov (.t 3) },
  { dst := some 13, op := .mov (.t 3) },
  { dst := some 14, op := .lenSl (.t 13), bef := [1] },
  { dst := some 15, op := .bin .sub (.t 14) (.c (.int .i64 1)), bef := [1, 2] },
  { dst := some 16, op := .minmax true [(.t 15), (.c (.int .i64 0))], bef := [1, 2, 3] },
  { dst := some 17, op := .slSl none (.t 12) none (some (.t 16)), bef := [0, 1, 2, 3, 4] },
  { dst := some 18, op := .mov (.t 0) },
  { dst := some 19, op := .call 31 [(.t 18)], bef := [6] },
  { dst := some 20, op := .call 30 [(.t 17), (.t 19)], bef := [0, 1, 2, 3, 4, 5, 6, 7] },
  { dst := some 2, op := .mov (.t 20), bef := [0, 1, 2, 3, 4, 5, 6, 7, 8] }]
def v28_10 : VCode := (.seq (.region true r28_9) (.keep [2] (.weak .ret)))
def v28_11 : VCode := (.seq v28_8 v28_10)
def v28_12 : VCode := (.seq (.region false r28_2) (.keep [0, 3, 4] (.weak v28_11)))
def v28 : VCode := (.seq (.region false r28_1) (.keep [0] (.weak v28_12)))
theorem hv28 : codeOf Tryd.prog Tryd.f28.ntmps v28 (Tryd.f28.body.getD .skip) = some v28 := by kernel_rfl
theorem ok28 {ds : List PV} {r : PV} {fl : Bool} (h : vwp Tryd.prog v28 (retQ [(2, none)] r fl) (initSt ds)) : CallOK Tryd.prog 28 ds r fl :=
  fn_ok Tryd.func28 rfl (by decide) hv28 rfl mixed h

/- ref03_Dir -/
def r29_1 : List VOper := [
  { dst := some 2, op := .mov (.c (.str [])) }]
def r29_2 : List VOper := [
  { dst := some 6, op := .mov (.t 0) },
  { dst := some 7, op := .call 17 [(.t 6)] },
  { dst := some 5, op := .mov (.t 7) },
  { dst := some 8, op := .extract (.t 5) 0 },
  { dst := some 9, op := .extract (.t 5) 1 },
  { dst := some 3, op := .mov (.t 8) },
  { dst := some 4, op := .mov (.t 9) }]
def r29_3 : List VOper := [
  { dst := some 10, op := .mov (.t 4) },
  { dst := some 11, op := .bin .neq (.t 10) (.c (.int .i64 0)) }]
def r29_4 : List VOper := [
  { dst := some 2, op := .mov (.c (.str [])) }]
def v29_5 : VCode := (.seq (.region false r29_4) (.keep [2] (.weak .ret)))
def v29_6 : VCode := (.keep [0, 3] (.weak .skip))
def v29_7 : VCode := (.cond (.t 11) v29_5 v29_6)
def v29_8 : VCode := (.seq (.region false r29_3) (.keep [0, 3, 11] (.weak v29_7)))
def r29_9 : List VOper := [
  { dst := some 12, op := .mov (.t 0) },
  { dst := some 13, op := .call 24 [(.t 12)], bef := [0] },
  { dst := some 14, op := .mov (.t 3) },
  { dst := some 15, op := .mov (.t 3) },
  { dst := some 16, op := .lenSl (.t 15), bef := [3] },
  { dst := some 17, op := .bin .sub (.t 16) (.c (.int .i64 1)), bef := [3, 4] },
  { dst := some 18, op := .minmax true [(.c (.int .i64 0)), (.t 17)], bef := [3, 4, 5] },
  { dst := some 19, op := .slSl none (.t 14) none (some (.t 18)), bef := [2, 3, 4, 5, 6] },
  { dst := some 20, op := .call 23 [(.t 13), (.t 19)], bef := [0, 1, 2, 3, 4, 5, 6, 7] },
  { dst := some 2, op := .mov (.t 20), bef := [0, 1, 2, 3, 4, 5, 6, 7, 8] }]
def v29_10 : VCode := (.seq (.region true r29_9) (.keep [2] (.weak .ret)))
def v29_11 : VCode := (.seq v29_8 v29_10)
def v29_12 : VCode := (.seq (.region false r29_2) (.keep [0, 3, 4] (.weak v29_11)))
def v29 : VCode := (.seq (.region false r29_1) (.keep [0] (.weak v29_12)))
theorem hv29 : codeOf Tryd.prog Tryd.f29.ntmps v29 (Tryd.f29.body.getD .skip) = some v29 := by kernel_rfl
theorem ok29 {ds : List PV} {r : PV} {fl : Bool} (h : vwp Tryd.prog v29 (retQ [(2, none)] r fl) (initSt ds)) : CallOK Tryd.prog 29 ds r fl :=
  fn_ok Tryd.func29 rfl (by decide) hv29 rfl mixed h

/- law03_PathEnds -/
def r9_1 : List VOper := [
  { dst := some 2, op := .mov (.c (.bool false)) }]
def r9_2 : List VOper := [
  { dst := some 3, op := .mov (.t 0) },
  { dst := some 4, op := .lenStr (.t 3) },
  { dst := some 5, op := .bin .gtr (.t 4) (.c (.int .i64 5000)) }]
def r9_3 : List VOper := [
  { dst := some 6, op := .call 11 [] },
  { dst := some 2, op := .mov (.t 6) }]
def v9_4 : VCode := (.seq (.region false r9_3) (.keep [2] (.weak .ret)))
def v9_5 : VCode := (.keep [0] (.weak .skip))
def v9_6 : VCode := (.cond (.t 5) v9_4 v9_5)
def v9_7 : VCode := (.seq (.region false r9_2) (.keep [0, 5] (.weak v9_6)))
def r9_8 : List VOper := [
  { dst := some 7, op := .mov (.t 0) },
  { dst := some 8, op := .call 26 [(.t 7)] },
  { dst := some 9, op := .mov (.t 0) },
  { dst := some 10, op := .call 27 [(.t 9)] },
  { dst := some 11, op := .bin .eql (.t 8) (.t 10) },
  { dst := some 12, op := .mov (.t 11) },
  { dst := some 13, op := .mov (.t 0), guard := some (12, true) },
  { dst := some 14, op := .call 28 [(.t 13)], guard := some (12, true) },
  { dst := some 15, op := .mov (.t 0), guard := some (12, true) },
  { dst := some 16, op := .call 29 [(.t 15)], guard := some (12, true) },
  { dst := some 17, op := .bin .eql (.t 14) (.t 16), guard := some (12, true) },
  { dst := some 18, op := .pick (.t 12) (.t 17) (.c (.bool false)) },
  { dst := some 19, op := .mov (.t 18) },
  { dst := some 20, op := .call 11 [], guard := some (19, true) },
  { dst := some 21, op := .pick (.t 19) (.t 20) (.c (.bool false)) },
  { dst := some 2, op := .mov (.t 21) }]
def v9_9 : VCode := (.seq (.region false r9_8) (.keep [2] (.weak .ret)))
def v9_10 : VCode := (.seq v9_7 v9_9)
def v9 : VCode := (.seq (.region false r9_1) (.keep [0] (.weak v9_10)))
theorem hv9 : codeOf Tryd.prog Tryd.f9.ntmps v9 (Tryd.f9.body.getD .skip) = some v9 := by kernel_rfl
theorem ok9 {ds : List PV} {r : PV} {fl : Bool} (h : vwp Tryd.prog v9 (retQ [(2, none)] r fl) (initSt ds)) : CallOK Tryd.prog 9 ds r fl :=
  fn_ok Tryd.func9 rfl (by decide) hv9 rfl mixed h

/- law03_PathRejoins -/
def r10_1 : List VOper := [
  { dst := some 2, op := .mov (.c (.bool false)) }]
def r10_2 : List VOper := [
  { dst := some 9, op := .mov (.t 0) },
  { dst := some 10, op := .lenStr (.t 9) },
  { dst := some 11, op := .bin .gtr (.t 10) (.c (.int .i64 5000)) }]
def r10_3 : List VOper := [
  { dst := some 12, op := .call 11 [] },
  { dst := some 2, op := .mov (.t 12) }]
def v10_4 : VCode := (.seq (.region false r10_3) (.keep [2] (.weak .ret)))
def v10_5 : VCode := (.keep [0] (.weak .skip))
def v10_6 : VCode := (.cond (.t 11) v10_4 v10_5)
def v10_7 : VCode := (.seq (.region false r10_2) (.keep [0, 11] (.weak v10_6)))
def r10_8 : List VOper := [
  { dst := some 14, op := .mov (.t 0) },
  { dst := some 15, op := .call 14 [(.t 14)] },
  { dst := some 13, op := .mov (.t 15) },
  { dst := some 16, op := .extract (.t 13) 0 },
  { dst := some 17, op := .extract (.t 13) 1 },
  { dst := some 3, op := .mov (.t 16) },
  { dst := some 4, op := .mov (.t 17) }]
def r10_9 : List VOper := [
  { dst := some 19, op := .mov (.t 0) },
  { dst := some 20, op := .call 16 [(.t 19)] },
  { dst := some 18, op := .mov (.t 20) },
  { dst := some 21, op := .extract (.t 18) 0 },
  { dst := some 22, op := .extract (.t 18) 1 },
  { dst := some 5, op := .mov (.t 21) },
  { dst := some 6, op := .mov (.t 22) }]
def r10_10 : List VOper := [
  { dst := some 23, op := .mov (.t 4) },
  { dst := some 24, op := .bin .neq (.t 23) (.c (.int .i64 0)) },
  { dst := some 25, op := .mov (.t 24) },
  { dst := some 26, op := .mov (.t 6), guard := some (25, false) },
  { dst := some 27, op := .bin .neq (.t 26) (.c (.int .i64 0)), guard := some (25, false) },
  { dst := some 28, op := .pick (.t 25) (.c (.bool true)) (.t 27) },
  { dst := some 29, op := .mov (.t 28) },
  { dst := some 30, op := .mov (.t 5), guard := some (29, false) },
  { dst := some 31, op := .lenSl (.t 30), guard := some (29, false) },
  { dst := some 32, op := .bin .eql (.t 31) (.c (.int .i64 0)), guard := some (29, false) },
  { dst := some 33, op := .pick (.t 29) (.c (.bool true)) (.t 32) },
  { dst := some 34, op := .mov (.t 33) },
  { dst := some 35, op := .mov (.t 5), guard := some (34, false) },
  { dst := some 36, op := .mov (.t 5), guard := some (34, false) },
  { dst := some 37, op := .lenSl (.t 36), guard := some (34, false) },
  { dst := some 38, op := .bin .sub (.t 37) (.c (.int .i64 1)), guard := some (34, false) },
  { dst := some 39, op := .indexAddr none (.t 35) (.t 38), guard := some (34, false) },
  { dst := some 40, op := .load none (.t 39), guard := some (34, false) },
  { dst := some 41, op := .bin .eql (.t 40) (.c (.str [46, 46])), guard := some (34, false) },
  { dst := some 42, op := .pick (.t 34) (.c (.bool true)) (.t 41) }]
def r10_11 : List VOper := [
  { dst := some 43, op := .call 11 [] },
  { dst := some 2, op := .mov (.t 43) }]
def v10_12 : VCode := (.seq (.region false r10_11) (.keep [2] (.weak .ret)))
def v10_13 : VCode := (.keep [0, 3] (.weak .skip))
def v10_14 : VCode := (.cond (.t 42) v10_12 v10_13)
def v10_15 : VCode := (.seq (.region false r10_10) (.keep [0, 3, 42] (.weak v10_14)))
def r10_16 : List VOper := [
  { dst := some 45, op := .mov (.t 0) },
  { dst := some 46, op := .call 28 [(.t 45)] },
  { dst := some 47, op := .mov (.t 0) },
  { dst := some 48, op := .call 26 [(.t 47)] },
  { dst := some 49, op := .call 19 [(.t 46), (.t 48)] },
  { dst := some 44, op := .mov (.t 49) },
  { dst := some 50, op := .extract (.t 44) 0 },
  { dst := some 51, op := .extract (.t 44) 1 },
  { dst := some 7, op := .mov (.t 50) },
  { dst := some 8, op := .mov (.t 51) }]
def r10_17 : List VOper := [
  { dst := some 52, op := .mov (.t 8) },
  { dst := some 53, op := .bin .eql (.t 52) (.c (.int .i64 0)) },
  { dst := some 54, op := .mov (.t 53) },
  { dst := some 55, op := .mov (.t 7), guard := some (54, true) },
  { dst := some 56, op := .mov (.t 3), guard := some (54, true) },
  { dst := some 57, op := .bin .eql (.t 55) (.t 56), guard := some (54, true) },
  { dst := some 58, op := .pick (.t 54) (.t 57) (.c (.bool false)) },
  { dst := some 59, op := .mov (.t 58) },
  { dst := some 60, op := .call 11 [], guard := some (59, true) },
  { dst := some 61, op := .pick (.t 59) (.t 60) (.c (.bool false)) },
  { dst := some 2, op := .mov (.t 61) }]
def v10_18 : VCode := (.seq (.region false r10_17) (.keep [2] (.weak .ret)))
def v10_19 : VCode := (.seq (.region false r10_16) (.keep [3, 7, 8] (.weak v10_18)))
def v10_20 : VCode := (.seq v10_15 v10_19)
def v10_21 : VCode := (.seq (.region false r10_9) (.keep [0, 3, 4, 5, 6] (.weak v10_20)))
def v10_22 : VCode := (.seq (.region false r10_8) (.keep [0, 3, 4] (.weak v10_21)))
def v10_23 : VCode := (.seq v10_7 v10_22)
def v10 : VCode := (.seq (.region false r10_1) (.keep [0] (.weak v10_23)))
theorem hv10 : codeOf Tryd.prog Tryd.f10.ntmps v10 (Tryd.f10.body.getD .skip) = some v10 := by kernel_rfl
theorem ok10 {ds : List PV} {r : PV} {fl : Bool} (h : vwp Tryd.prog v10 (retQ [(2, none)] r fl) (initSt ds)) : CallOK Tryd.prog 10 ds r fl :=
  fn_ok Tryd.func10 rfl (by decide) hv10 rfl mixed h

/- bytealg_Cutover -/
def r54_1 : List VOper := [
  { dst := some 2, op := .mov (.c (.int .i64 0)) }]
def r54_2 : List VOper := [
  { dst := some 3, op := .mov (.t 0) },
  { dst := some 4, op := .bin .add (.t 3) (.c (.int .i64 16)) },
  { dst := some 5, op := .bin .quo (.t 4) (.c (.int .i64 8)) },
  { dst := some 2, op := .mov (.t 5) }]
def v54_3 : VCode := (.seq (.region false r54_2) (.keep [2] (.weak .ret)))
def v54 : VCode := (.seq (.region false r54_1) (.keep [0] (.weak v54_3)))
theorem hv54 : codeOf Tryd.prog Tryd.f54.ntmps v54 (Tryd.f54.body.getD .skip) = some v54 := by kernel_rfl
theorem ok54 {ds : List PV} {r : PV} {fl : Bool} (h : vwp Tryd.prog v54 (retQ [(2, none)] r fl) (initSt ds)) : CallOK Tryd.prog 54 ds r fl :=
  fn_ok Tryd.func54 rfl (by decide) hv54 rfl mixed h

/- bytealg_hashStr_string -/
def r57_1 : List VOper := [
  { dst := some 2, op := .mov (.c (.int .u32 0)) },
  { dst := some 3, op := .mov (.c (.int .u32 0)) }]
def r57_2 : List VOper := [
  { dst := some 4, op := .mov (.c (.int .u32 0)) }]
def r57_3 : List VOper := [
  { dst := some 5, op := .mov (.c (.int .i64 0)) }]
def r57_4 : List VOper := [
  { dst := some 9, op := .mov (.t 5) },
  { dst := some 10, op := .mov (.t 0) },
  { dst := some 11, op := .lenStr (.t 10) },
  { dst := some 12, op := .bin .lss (.t 9) (.t 11) }]
def v57_5 : VCode := (.keep [0, 4, 5] (.weak .skip))
def v57_6 : VCode := (.keep [0, 4] (.weak (.exit 0)))
def v57_7 : VCode := (.cond (.t 12) v57_5 v57_6)
def v57_8 : VCode := (.seq (.region false r57_4) (.keep [0, 4, 5, 12] (.weak v57_7)))
def r57_9 : List VOper := [
  { dst := some 15, op := .mov (.t 4) },
  { dst := some 16, op := .bin .mul (.t 15) (.c (.int .u32 16777619)) },
  { dst := some 17, op := .mov (.t 0) },
  { dst := some 18, op := .mov (.t 5) },
  { dst := some 19, op := .indexStr (.t 17) (.t 18) },
  { dst := some 20, op := .conv .u32 (.t 19) },
  { dst := some 21, op := .bin .add (.t 16) (.t 20) },
  { dst := some 4, op := .mov (.t 21) }]
def v57_10 : VCode := (.post [0, 4, 5] (.region false r57_9))
def v57_11 : VCode := (.block 1 v57_10)
def r57_12 : List VOper := [
  { dst := some 13, op := .mov (.t 5) },
  { dst := some 14, op := .bin .add (.t 13) (.c (.int .i64 1)) },
  { dst := some 5, op := .mov (.t 14) }]
def v57_13 : VCode := (.post [0, 4, 5] (.region false r57_12))
def v57_14 : VCode := (.seq v57_11 v57_13)
def v57_15 : VCode := (.seq v57_8 v57_14)
def v57_16 : VCode := (.loop [0, 4, 5] v57_15)
def v57_17 : VCode := (.keep [0, 4, 5] (.weak v57_16))
def v57_18 : VCode := (.block 0 v57_17)
def v57_19 : VCode := (.seq (.region false r57_3) (.keep [0, 4, 5] (.weak v57_18)))
def r57_20 : List VOper := [
  { dst := some 6, op := .mov (.c (.int .u32 1)) },
  { dst := some 7, op := .mov (.c (.int .u32 16777619)) }]
def r57_21 : List VOper := [
  { dst := some 22, op := .mov (.t 0) },
  { dst := some 23, op := .lenStr (.t 22) },
  { dst := some 8, op := .mov (.t 23) }]
def r57_22 : List VOper := [
  { dst := some 24, op := .mov (.t 8) },
  { dst := some 25, op := .bin .gtr (.t 24) (.c (.int .i64 0)) }]
def v57_23 : VCode := (.keep [4, 6, 7, 8] (.weak .skip))
def v57_24 : VCode := (.keep [4, 6] (.weak (.exit 2)))
def v57_25 : VCode := (.cond (.t 25) v57_23 v57_24)
def v57_26 : VCode := (.seq (.region false r57_22) (.keep [4, 6, 7, 8, 25] (.weak v57_25)))
def r57_27 : List VOper := [
  { dst := some 28, op := .mov (.t 8) },
  { dst := some 29, op := .bin .and (.t 28) (.c (.int .i64 1)) },
  { dst := some 30, op := .bin .neq (.t 29) (.c (.int .i64 0)) }]
def r57_28 : List VOper := [
  { dst := some 31, op := .mov (.t 6) },
  { dst := some 32, op := .mov (.t 7) },
  { dst := some 33, op := .bin .mul (.t 31) (.t 32) },
  { dst := some 6, op := .mov (.t 33) }]
def v57_29 : VCode := (.post [4, 6, 7, 8] (.region false r57_28))
def v57_30 : VCode := (.keep [4, 6, 7, 8] (.weak .skip))
def v57_31 : VCode := (.cond (.t 30) v57_29 v57_30)
def v57_32 : VCode := (.seq (.region false r57_27) (.keep [4, 6, 7, 8, 30] (.weak v57_31)))
def r57_33 : List VOper := [
  { dst := some 34, op := .mov (.t 7) },
  { dst := some 35, op := .mov (.t 7) },
  { dst := some 36, op := .bin .mul (.t 34) (.t 35) },
  { dst := some 7, op := .mov (.t 36) }]
def v57_34 : VCode := (.post [4, 6, 7, 8] (.region false r57_33))
def v57_35 : VCode := (.seq v57_32 v57_34)
def v57_36 : VCode := (.block 3 v57_35)
def r57_37 : List VOper := [
  { dst := some 26, op := .mov (.t 8) },
  { dst := some 27, op := .bin .shr (.t 26) (.c (.int .u64 1)) },
  { dst := some 8, op := .mov (.t 27) }]
def v57_38 : VCode := (.post [4, 6, 7, 8] (.region false r57_37))
def v57_39 : VCode := (.seq v57_36 v57_38)
def v57_40 : VCode := (.seq v57_26 v57_39)
def v57_41 : VCode := (.loop [4, 6, 7, 8] v57_40)
def v57_42 : VCode := (.keep [4, 6, 7, 8] (.weak v57_41))
def v57_43 : VCode := (.block 2 v57_42)
def v57_44 : VCode := (.seq (.region false r57_21) (.keep [4, 6, 7, 8] (.weak v57_43)))
def r57_45 : List VOper := [
  { dst := some 37, op := .mov (.t 4) },
  { dst := some 38, op := .mov (.t 6) },
  { dst := some 2, op := .mov (.t 37) },
  { dst := some 3, op := .mov (.t 38) }]
def v57_46 : VCode := (.seq (.region false r57_45) (.keep [2, 3] (.weak .ret)))
def v57_47 : VCode := (.seq v57_44 v57_46)
def v57_48 : VCode := (.seq (.region false r57_20) (.keep [0, 4, 6, 7] (.weak v57_47)))
def v57_49 : VCode := (.seq v57_19 v57_48)
def v57_50 : VCode := (.seq (.region false r57_2) (.keep [0, 4] (.weak v57_49)))
def v57 : VCode := (.seq (.region false r57_1) (.keep [0] (.weak v57_50)))
theorem hv57 : codeOf Tryd.prog Tryd.f57.ntmps v57 (Tryd.f57.body.getD .skip) = some v57 := by kernel_rfl
theorem ok57 {ds : List PV} {r : PV} {fl : Bool} (h : vwp Tryd.prog v57 (retQ [(2, none), (3, none)] r fl) (initSt ds)) : CallOK Tryd.prog 57 ds r fl :=
  fn_ok Tryd.func57 rfl (by decide) hv57 rfl mixed h

/- bytealg_IndexRabinKarp_string -/
def r55_1 : List VOper := [
  { dst := some 4, op := .mov (.c (.int .i64 0)) }]
def r55_2 : List VOper := [
  { dst := some 12, op := .mov (.t 1) },
  { dst := some 13, op := .call 57 [(.t 12)] },
  { dst := some 11, op := .mov (.t 13) },
  { dst := some 14, op := .extract (.t 11) 0 },
  { dst := some 15, op := .extract (.t 11) 1 },
  { dst := some 5, op := .mov (.t 14) },
  { dst := some 6, op := .mov (.t 15) }]
def r55_3 : List VOper := [
  { dst := some 16, op := .mov (.t 1) },
  { dst := some 17, op := .lenStr (.t 16) },
  { dst := some 7, op := .mov (.t 17) }]
def r55_4 : List VOper := [
  { dst := some 8, op := .mov (.c (.int .u32 0)) }]
def r55_5 : List VOper := [
  { dst := some 9, op := .mov (.c (.int .i64 0)) }]
def r55_6 : List VOper := [
  { dst := some 18, op := .mov (.t 9) },
  { dst := some 19, op := .mov (.t 7) },
  { dst := some 20, op := .bin .lss (.t 18) (.t 19) }]
def v55_7 : VCode := (.keep [0, 1, 5, 6, 7, 8, 9] (.weak .skip))
def v55_8 : VCode := (.keep [0, 1, 5, 6, 7, 8] (.weak (.exit 0)))
def v55_9 : VCode := (.cond (.t 20) v55_7 v55_8)
def v55_10 : VCode := (.seq (.region false r55_6) (.keep [0, 1, 5, 6, 7, 8, 9, 20] (.weak v55_9)))
def r55_11 : List VOper := [
  { dst := some 23, op := .mov (.t 8) },
  { dst := some 24, op := .bin .mul (.t 23) (.c (.int .u32 16777619)) },
  { dst := some 25, op := .mov (.t 0) },
  { dst := some 26, op := .mov (.t 9) },
  { dst := some 27, op := .indexStr (.t 25) (.t 26) },
  { dst := some 28, op := .conv .u32 (.t 27) },
  { dst := some 29, op := .bin .add (.t 24) (.t 28) },
  { dst := some 8, op := .mov (.t 29) }]
def v55_12 : VCode := (.post [0, 1, 5, 6, 7, 8, 9] (.region false r55_11))
def v55_13 : VCode := (.block 1 v55_12)
def r55_14 : List VOper := [
  { dst := some 21, op := .mov (.t 9) },
  { dst := some 22, op := .bin .add (.t 21) (.c (.int .i64 1)) },
  { dst := some 9, op := .mov (.t 22) }]
def v55_15 : VCode := (.post [0, 1, 5, 6, 7, 8, 9] (.region false r55_14))
def v55_16 : VCode := (.seq v55_13 v55_15)
def v55_17 : VCode := (.seq v55_10 v55_16)
def v55_18 : VCode := (.loop [0, 1, 5, 6, 7, 8, 9] v55_17)
def v55_19 : VCode := (.keep [0, 1, 5, 6, 7, 8, 9] (.weak v55_18))
def v55_20 : VCode := (.block 0 v55_19)
def v55_21 : VCode := (.seq (.region false r55_5) (.keep [0, 1, 5, 6, 7, 8, 9] (.weak v55_20)))
def r55_22 : List VOper := [
  { dst := some 30, op := .mov (.t 8) },
  { dst := some 31, op := .mov (.t 5) },
  { dst := some 32, op := .bin .eql (.t 30) (.t 31) },
  { dst := some 33, op := .mov (.t 32) },
  { dst := some 34, op := .mov (.t 0), guard := some (33, true) },
  { dst := some 35, op := .mov (.t 7), guard := some (33, true) },
  { dst := some 36, op := .slStr (.t 34) none (some (.t 35)), guard := some (33, true) },
  { dst := some 37, op := .mov (.t 1), guard := some (33, true) },
  { dst := some 38, op := .bin .eql (.t 36) (.t 37), guard := some (33, true) },
  { dst := some 39, op := .pick (.t 33) (.t 38) (.c (.bool false)) }]
def r55_23 : List VOper := [
  { dst := some 4, op := .mov (.c (.int .i64 0)) }]
def v55_24 : VCode := (.seq (.region false r55_23) (.keep [4] (.weak .ret)))
def v55_25 : VCode := (.keep [0, 1, 5, 6, 7, 8] (.weak .skip))
def v55_26 : VCode := (.cond (.t 39) v55_24 v55_25)
def v55_27 : VCode := (.seq (.region false r55_22) (.keep [0, 1, 5, 6, 7, 8, 39] (.weak v55_26)))
def r55_28 : List VOper := [
  { dst := some 40, op := .mov (.t 7) },
  { dst := some 10, op := .mov (.t 40) }]
def r55_29 : List VOper := [
  { dst := some 41, op := .mov (.t 10) },
  { dst := some 42, op := .mov (.t 0) },
  { dst := some 43, op := .lenStr (.t 42) },
  { dst := some 44, op := .bin .lss (.t 41) (.t 43) }]
def v55_30 : VCode := (.keep [0, 1, 5, 6, 7, 8, 10] (.weak .skip))
def v55_31 : VCode := (.keep [] (.weak (.exit 2)))
def v55_32 : VCode := (.cond (.t 44) v55_30 v55_31)
def v55_33 : VCode := (.seq (.region false r55_29) (.keep [0, 1, 5, 6, 7, 8, 10, 44] (.weak v55_32)))
def r55_34 : List VOper := [
  { dst := some 45, op := .mov (.t 8) },
  { dst := some 46, op := .bin .mul (.t 45) (.c (.int .u32 16777619)) },
  { dst := some 8, op := .mov (.t 46) }]
def r55_35 : List VOper := [
  { dst := some 47, op := .mov (.t 8) },
  { dst := some 48, op := .mov (.t 0) },
  { dst := some 49, op := .mov (.t 10) },
  { dst := some 50, op := .indexStr (.t 48) (.t 49) },
  { dst := some 51, op := .conv .u32 (.t 50) },
  { dst := some 52, op := .bin .add (.t 47) (.t 51) },
  { dst := some 8, op := .mov (.t 52) }]
def r55_36 : List VOper := [
  { dst := some 53, op := .mov (.t 8) },
  { dst := some 54, op := .mov (.t 6) },
  { dst := some 55, op := .mov (.t 0) },
  { dst := some 56, op := .mov (.t 10) },
  { dst := some 57, op := .mov (.t 7) },
  { dst := some 58, op := .bin .sub (.t 56) (.t 57) },
  { dst := some 59, op := .indexStr (.t 55) (.t 58) },
  { dst := some 60, op := .conv .u32 (.t 59) },
  { dst := some 61, op := .bin .mul (.t 54) (.t 60) },
  { dst := some 62, op := .bin .sub (.t 53) (.t 61) },
  { dst := some 8, op := .mov (.t 62) }]
def r55_37 : List VOper := [
  { dst := some 63, op := .mov (.t 10) },
  { dst := some 64, op := .bin .add (.t 63) (.c (.int .i64 1)) },
  { dst := some 10, op := .mov (.t 64) }]
def r55_38 : List VOper := [
  { dst := some 65, op := .mov (.t 8) },
  { dst := some 66, op := .mov (.t 5) },
  { dst := some 67, op := .bin .eql (.t 65) (.t 66) },
  { dst := some 68, op := .mov (.t 67) },
  { dst := some 69, op := .mov (.t 0), guard := some (68, true) },
  { dst := some 70, op := .mov (.t 10), guard := some (68, true) },
  { dst := some 71, op := .mov (.t 7), guard := some (68, true) },
  { dst := some 72, op := .bin .sub (.t 70) (.t 71), guard := some (68, true) },
  { dst := some 73, op := .mov (.t 10), guard := some (68, true) },
  { dst := some 74, op := .slStr (.t 69) (some (.t 72)) (some (.t 73)), guard := some (68, true) },
  { dst := some 75, op := .mov (.t 1), guard := some (68, true) },
  { dst := some 76, op := .bin .eql (.t 74) (.t 75), guard := some (68, true) },
  { dst := some 77, op := .pick (.t 68) (.t 76) (.c (.bool false)) }]
def r55_39 : List VOper := [
  { dst := some 78, op := .mov (.t 10) },
  { dst := some 79, op := .mov (.t 7) },
  { dst := some 80, op := .bin .sub (.t 78) (.t 79) },
  { dst := some 4, op := .mov (.t 80) }]
def v55_40 : VCode := (.seq (.region false r55_39) (.keep [4] (.weak .ret)))
def v55_41 : VCode := (.keep [0, 1, 5, 6, 7, 8, 10] (.weak .skip))
def v55_42 : VCode := (.cond (.t 77) v55_40 v55_41)
def v55_43 : VCode := (.seq (.region false r55_38) (.keep [0, 1, 5, 6, 7, 8, 10, 77] (.weak v55_42)))
def v55_44 : VCode := (.seq (.region false r55_37) (.keep [0, 1, 5, 6, 7, 8, 10] (.weak v55_43)))
def v55_45 : VCode := (.seq (.region false r55_36) (.keep [0, 1, 5, 6, 7, 8, 10] (.weak v55_44)))
def v55_46 : VCode := (.seq (.region false r55_35) (.keep [0, 1, 5, 6, 7, 8, 10] (.weak v55_45)))
def v55_47 : VCode := (.seq (.region false r55_34) (.keep [0, 1, 5, 6, 7, 8, 10] (.weak v55_46)))
def v55_48 : VCode := (.block 3 v55_47)
def v55_49 : VCode := (.seq v55_33 v55_48)
def v55_50 : VCode := (.loop [0, 1, 5, 6, 7, 8, 10] v55_49)
def v55_51 : VCode := (.keep [0, 1, 5, 6, 7, 8, 10] (.weak v55_50))
def v55_52 : VCode := (.block 2 v55_51)
def v55_53 : VCode := (.seq (.region false r55_28) (.keep [0, 1, 5, 6, 7, 8, 10] (.weak v55_52)))
def r55_54 : List VOper := [
  { dst := some 4, op := .mov (.c (.int .i64 (-1))) }]
def v55_55 : VCode := (.seq (.region false r55_54) (.keep [4] (.weak .ret)))
def v55_56 : VCode := (.seq v55_53 v55_55)
def v55_57 : VCode := (.seq v55_27 v55_56)
def v55_58 : VCode := (.seq v55_21 v55_57)
def v55_59 : VCode := (.seq (.region false r55_4) (.keep [0, 1, 5, 6, 7, 8] (.weak v55_58)))
def v55_60 : VCode := (.seq (.region false r55_3) (.keep [0, 1, 5, 6, 7] (.weak v55_59)))
def v55_61 : VCode := (.seq (.region false r55_2) (.keep [0, 1, 5, 6] (.weak v55_60)))
def v55 : VCode := (.seq (.region false r55_1) (.keep [0, 1] (.weak v55_61)))
theorem hv55 : codeOf Tryd.prog Tryd.f55.ntmps v55 (Tryd.f55.body.getD .skip) = some v55 := by kernel_rfl
theorem ok55 {ds : List PV} {r : PV} {fl : Bool} (h : vwp Tryd.prog v55 (retQ [(4, none)] r fl) (initSt ds)) : CallOK Tryd.prog 55 ds r fl :=
  fn_ok Tryd.func55 rfl (by decide) hv55 rfl mixed h

end Go.Proofs.YtheeafnmkboblaaDoor
