/- The machine's code of the functions of this translation, printed by a program of the claim's author. -/
import Derived.Test.YtphblddgbbgdnaaDoorVmX
import Derived.Test.YtphblddgbbgdnaaDoorChecked
import Derived.KernelRfl
namespace Go.Proofs.YtphblddgbbgdnaaDoor
open Go.Vm
set_option autoImplicit false
set_option linter.unusedVariables false
set_option linter.unusedSimpArgs false
set_option maxRecDepth 100000

theorem mixed : Tryd.prog.follows .mixedOrders = true := by kernel_rfl

/- stringslite_HasSuffix -/
def r114_1 : List VOper := [
 vO 4 (.mov (.c (.bool false)))]
def r114_2 : List VOper := [
 vO 5 (.mov (.t 0)),
 vO 6 (.lenStr (.t 5)),
 vO 7 (.mov (.t 1)),
 vO 8 (.lenStr (.t 7)),
 vO 9 (.bin .geq (.t 6) (.t 8)),
 vO 10 (.mov (.t 9)),
 vG 11 10 true (.mov (.t 0)),
 vG 12 10 true (.mov (.t 0)),
 vG 13 10 true (.lenStr (.t 12)),
 vG 14 10 true (.mov (.t 1)),
 vG 15 10 true (.lenStr (.t 14)),
 vG 16 10 true (.bin .sub (.t 13) (.t 15)),
 vG 17 10 true (.slStr (.t 11) (some (.t 16)) none),
 vG 18 10 true (.mov (.t 1)),
 vG 19 10 true (.bin .eql (.t 17) (.t 18)),
 vO 20 (.pick (.t 10) (.t 19) (.c (.bool false))),
 vO 4 (.mov (.t 20))]
def v114_3 : VCode := (.seq (.region false r114_2) (.keep [4] (.weak .ret)))
def v114 : VCode := (.seq (.region false r114_1) (.keep [0, 1] (.weak v114_3)))
theorem hv114 : codeOf Tryd.prog Tryd.f114.ntmps v114 (Tryd.f114.body.getD .skip) = some v114 := by kernel_rfl
theorem ok114 {ds : List PV} {r : PV} {fl : Bool} (h : vwp Tryd.prog v114 (retQ [(4, none)] r fl) (initSt ds)) : CallOK Tryd.prog 114 ds r fl :=
  fn_ok Tryd.func114 rfl (by decide) hv114 rfl mixed h

/- stringslite_TrimSuffix -/
def r92_1 : List VOper := [
 vO 4 (.mov (.c (.str [])))]
def r92_2 : List VOper := [
 vO 5 (.mov (.t 0)),
 vO 6 (.mov (.t 1)),
 vO 7 (.call 114 [(.t 5), (.t 6)])]
def r92_3 : List VOper := [
 vO 8 (.mov (.t 0)),
 vO 9 (.mov (.t 0)),
 vO 10 (.lenStr (.t 9)),
 vO 11 (.mov (.t 1)),
 vO 12 (.lenStr (.t 11)),
 vO 13 (.bin .sub (.t 10) (.t 12)),
 vO 14 (.slStr (.t 8) none (some (.t 13))),
 vO 4 (.mov (.t 14))]
def v92_4 : VCode := (.seq (.region false r92_3) (.keep [4] (.weak .ret)))
def v92_5 : VCode := (.keep [0] (.weak .skip))
def v92_6 : VCode := (.cond (.t 7) v92_4 v92_5)
def v92_7 : VCode := (.seq (.region false r92_2) (.keep [0, 1, 7] (.weak v92_6)))
def r92_8 : List VOper := [
 vO 15 (.mov (.t 0)),
 vO 4 (.mov (.t 15))]
def v92_9 : VCode := (.seq (.region false r92_8) (.keep [4] (.weak .ret)))
def v92_10 : VCode := (.seq v92_7 v92_9)
def v92 : VCode := (.seq (.region false r92_1) (.keep [0, 1] (.weak v92_10)))
theorem hv92 : codeOf Tryd.prog Tryd.f92.ntmps v92 (Tryd.f92.body.getD .skip) = some v92 := by kernel_rfl
theorem ok92 {ds : List PV} {r : PV} {fl : Bool} (h : vwp Tryd.prog v92 (retQ [(4, none)] r fl) (initSt ds)) : CallOK Tryd.prog 92 ds r fl :=
  fn_ok Tryd.func92 rfl (by decide) hv92 rfl mixed h

/- strings_TrimSuffix -/
def r66_1 : List VOper := [
 vO 4 (.mov (.c (.str [])))]
def r66_2 : List VOper := [
 vO 5 (.mov (.t 0)),
 vO 6 (.mov (.t 1)),
 vO 7 (.call 92 [(.t 5), (.t 6)]),
 vO 4 (.mov (.t 7))]
def v66_3 : VCode := (.seq (.region false r66_2) (.keep [4] (.weak .ret)))
def v66 : VCode := (.seq (.region false r66_1) (.keep [0, 1] (.weak v66_3)))
theorem hv66 : codeOf Tryd.prog Tryd.f66.ntmps v66 (Tryd.f66.body.getD .skip) = some v66 := by kernel_rfl
theorem ok66 {ds : List PV} {r : PV} {fl : Bool} (h : vwp Tryd.prog v66 (retQ [(4, none)] r fl) (initSt ds)) : CallOK Tryd.prog 66 ds r fl :=
  fn_ok Tryd.func66 rfl (by decide) hv66 rfl mixed h

/- unicode_utf8_RuneCountInString -/
def r109_1 : List VOper := [
 vO 2 (.mov (.c (.int .i64 0)))]
def r109_2 : List VOper := [
 vO 3 (.mov (.t 0)),
 vO 4 .bad]
def r109_3 : List VOper := [
 vO 5 .bad,
 vO 6 (.extract (.t 5) 0)]
def v109_4 : VCode := (.keep [2, 4] (.weak .skip))
def v109_5 : VCode := (.keep [2] (.weak (.exit 0)))
def v109_6 : VCode := (.cond (.t 6) v109_4 v109_5)
def r109_7 : List VOper := [
 vO 7 (.mov (.t 2)),
 vO 8 (.bin .add (.t 7) (.c (.int .i64 1))),
 vO 2 (.mov (.t 8))]
def v109_8 : VCode := (.post [2, 4] (.region false r109_7))
def v109_9 : VCode := (.block 1 v109_8)
def v109_10 : VCode := (.seq v109_6 v109_9)
def v109_11 : VCode := (.seq (.region false r109_3) (.keep [2, 4, 6] (.weak v109_10)))
def v109_12 : VCode := (.loop [2, 4] v109_11)
def v109_13 : VCode := (.keep [2, 4] (.weak v109_12))
def v109_14 : VCode := (.block 0 v109_13)
def v109_15 : VCode := (.seq (.region false r109_2) (.keep [2, 4] (.weak v109_14)))
def r109_16 : List VOper := [
 vO 9 (.mov (.t 2)),
 vO 2 (.mov (.t 9))]
def v109_17 : VCode := (.seq (.region false r109_16) (.keep [2] (.weak .ret)))
def v109_18 : VCode := (.seq v109_15 v109_17)
def v109 : VCode := (.seq (.region false r109_1) (.keep [0, 2, 9] (.weak v109_18)))
theorem hv109 : codeOf Tryd.prog Tryd.f109.ntmps v109 (Tryd.f109.body.getD .skip) = some v109 := by kernel_rfl
theorem ok109 {ds : List PV} {r : PV} {fl : Bool} (h : vwp Tryd.prog v109 (retQ [(2, none)] r fl) (initSt ds)) : CallOK Tryd.prog 109 ds r fl :=
  fn_ok Tryd.func109 rfl (by decide) hv109 rfl mixed h

/- unicode_utf8_decodeRuneInStringSlow -/
def r124_1 : List VOper := [
 vO 2 (.mov (.c (.int .i32 0))),
 vO 3 (.mov (.c (.int .i64 0)))]
def r124_2 : List VOper := [
 vO 13 (.mov (.t 0)),
 vO 14 (.lenStr (.t 13)),
 vO 4 (.mov (.t 14))]
def r124_3 : List VOper := [
 vO 15 (.mov (.t 4)),
 vO 16 (.bin .lss (.t 15) (.c (.int .i64 1)))]
def r124_4 : List VOper := [
 vO 2 (.mov (.c (.int .i32 65533))),
 vO 3 (.mov (.c (.int .i64 0)))]
def v124_5 : VCode := (.seq (.region false r124_4) (.keep [2, 3] (.weak .ret)))
def v124_6 : VCode := (.keep [0, 4] (.weak .skip))
def v124_7 : VCode := (.cond (.t 16) v124_5 v124_6)
def v124_8 : VCode := (.seq (.region false r124_3) (.keep [0, 4, 16] (.weak v124_7)))
def r124_9 : List VOper := [
 vO 17 (.mov (.t 0)),
 vO 18 (.indexStr (.t 17) (.c (.int .i64 0))),
 vO 5 (.mov (.t 18))]
def r124_10 : List VOper := [
 vO 19 (.mov (.t 5)),
 vO 20 .bad,
 vO 21 (.load none (.t 20)),
 vO 6 (.mov (.t 21))]
def r124_11 : List VOper := [
 vO 22 (.mov (.t 6)),
 vO 23 (.bin .geq (.t 22) (.c (.int .u8 240)))]
def r124_12 : List VOper := [
 vO 24 (.mov (.t 6)),
 vO 25 (.conv .i32 (.t 24)),
 vO 26 (.bin .shl (.t 25) (.c (.int .u64 31))),
 vO 27 (.bin .shr (.t 26) (.c (.int .u64 31))),
 vO 7 (.mov (.t 27))]
def r124_13 : List VOper := [
 vO 28 (.mov (.t 0)),
 vO 29 (.indexStr (.t 28) (.c (.int .i64 0))),
 vO 30 (.conv .i32 (.t 29)),
 vO 31 (.mov (.t 7)),
 vO 32 (.bin .andNot (.t 30) (.t 31)),
 vO 33 (.mov (.t 7)),
 vO 34 (.bin .and (.c (.int .i32 65533)) (.t 33)),
 vO 35 (.bin .or (.t 32) (.t 34)),
 vO 2 (.mov (.t 35)),
 vO 3 (.mov (.c (.int .i64 1)))]
def v124_14 : VCode := (.seq (.region false r124_13) (.keep [2, 3] (.weak .ret)))
def v124_15 : VCode := (.seq (.region false r124_12) (.keep [0, 7] (.weak v124_14)))
def v124_16 : VCode := (.keep [0, 4, 5, 6] (.weak .skip))
def v124_17 : VCode := (.cond (.t 23) v124_15 v124_16)
def v124_18 : VCode := (.seq (.region false r124_11) (.keep [0, 4, 5, 6, 23] (.weak v124_17)))
def r124_19 : List VOper := [
 vO 36 (.mov (.t 6)),
 vO 37 (.bin .and (.t 36) (.c (.int .u8 7))),
 vO 38 (.conv .i64 (.t 37)),
 vO 8 (.mov (.t 38))]
def r124_20 : List VOper := [
 vO 39 (.mov (.t 6)),
 vO 40 (.bin .shr (.t 39) (.c (.int .u64 4))),
 vO 41 .bad,
 vO 42 (.load (some 2) (.t 41)),
 vO 9 (.alloc (some 2) (.agg [.int .u8 0, .int .u8 0])),
 { dst := none, op := .store (some 2) (.t 9) (.t 42) }]
def r124_21 : List VOper := [
 vO 43 (.mov (.t 4)),
 vO 44 (.mov (.t 8)),
 vO 45 (.bin .lss (.t 43) (.t 44))]
def r124_22 : List VOper := [
 vO 2 (.mov (.c (.int .i32 65533))),
 vO 3 (.mov (.c (.int .i64 1)))]
def v124_23 : VCode := (.seq (.region false r124_22) (.keep [2, 3] (.weak .ret)))
def v124_24 : VCode := (.keep [0, 5, 8, 9] (.weak .skip))
def v124_25 : VCode := (.cond (.t 45) v124_23 v124_24)
def v124_26 : VCode := (.seq (.region false r124_21) (.keep [0, 5, 8, 9, 45] (.weak v124_25)))
def r124_27 : List VOper := [
 vO 46 (.mov (.t 0)),
 vO 47 (.indexStr (.t 46) (.c (.int .i64 1))),
 vO 10 (.mov (.t 47))]
def r124_28 : List VOper := [
 vO 48 (.mov (.t 10)),
 vO 49 (.fieldAddr 0 (.t 9)),
 vO 50 (.load none (.t 49)),
 vO 51 (.bin .lss (.t 48) (.t 50)),
 vO 52 (.mov (.t 51)),
 vG 53 52 false (.fieldAddr 1 (.t 9)),
 vG 54 52 false (.load none (.t 53)),
 vG 55 52 false (.mov (.t 10)),
 vG 56 52 false (.bin .lss (.t 54) (.t 55)),
 vO 57 (.pick (.t 52) (.c (.bool true)) (.t 56))]
def r124_29 : List VOper := [
 vO 2 (.mov (.c (.int .i32 65533))),
 vO 3 (.mov (.c (.int .i64 1)))]
def v124_30 : VCode := (.seq (.region false r124_29) (.keep [2, 3] (.weak .ret)))
def v124_31 : VCode := (.keep [0, 5, 8, 10] (.weak .skip))
def v124_32 : VCode := (.cond (.t 57) v124_30 v124_31)
def v124_33 : VCode := (.seq (.region false r124_28) (.keep [0, 5, 8, 10, 57] (.weak v124_32)))
def r124_34 : List VOper := [
 vO 58 (.mov (.t 8)),
 vO 59 (.bin .leq (.t 58) (.c (.int .i64 2)))]
def r124_35 : List VOper := [
 vO 60 (.mov (.t 5)),
 vO 61 (.bin .and (.t 60) (.c (.int .u8 31))),
 vO 62 (.conv .i32 (.t 61)),
 vO 63 (.bin .shl (.t 62) (.c (.int .u64 6))),
 vO 64 (.mov (.t 10)),
 vO 65 (.bin .and (.t 64) (.c (.int .u8 63))),
 vO 66 (.conv .i32 (.t 65)),
 vO 67 (.bin .or (.t 63) (.t 66)),
 vO 2 (.mov (.t 67)),
 vO 3 (.mov (.c (.int .i64 2)))]
def v124_36 : VCode := (.seq (.region false r124_35) (.keep [2, 3] (.weak .ret)))
def v124_37 : VCode := (.keep [0, 5, 8, 10] (.weak .skip))
def v124_38 : VCode := (.cond (.t 59) v124_36 v124_37)
def v124_39 : VCode := (.seq (.region false r124_34) (.keep [0, 5, 8, 10, 59] (.weak v124_38)))
def r124_40 : List VOper := [
 vO 68 (.mov (.t 0)),
 vO 69 (.indexStr (.t 68) (.c (.int .i64 2))),
 vO 11 (.mov (.t 69))]
def r124_41 : List VOper := [
 vO 70 (.mov (.t 11)),
 vO 71 (.bin .lss (.t 70) (.c (.int .u8 128))),
 vO 72 (.mov (.t 71)),
 vG 73 72 false (.mov (.t 11)),
 vG 74 72 false (.bin .lss (.c (.int .u8 191)) (.t 73)),
 vO 75 (.pick (.t 72) (.c (.bool true)) (.t 74))]
def r124_42 : List VOper := [
 vO 2 (.mov (.c (.int .i32 65533))),
 vO 3 (.mov (.c (.int .i64 1)))]
def v124_43 : VCode := (.seq (.region false r124_42) (.keep [2, 3] (.weak .ret)))
def v124_44 : VCode := (.keep [0, 5, 8, 10, 11] (.weak .skip))
def v124_45 : VCode := (.cond (.t 75) v124_43 v124_44)
def v124_46 : VCode := (.seq (.region false r124_41) (.keep [0, 5, 8, 10, 11, 75] (.weak v124_45)))
def r124_47 : List VOper := [
 vO 76 (.mov (.t 8)),
 vO 77 (.bin .leq (.t 76) (.c (.int .i64 3)))]
def r124_48 : List VOper := [
 vO 78 (.mov (.t 5)),
 vO 79 (.bin .and (.t 78) (.c (.int .u8 15))),
 vO 80 (.conv .i32 (.t 79)),
 vO 81 (.bin .shl (.t 80) (.c (.int .u64 12))),
 vO 82 (.mov (.t 10)),
 vO 83 (.bin .and (.t 82) (.c (.int .u8 63))),
 vO 84 (.conv .i32 (.t 83)),
 vO 85 (.bin .shl (.t 84) (.c (.int .u64 6))),
 vO 86 (.bin .or (.t 81) (.t 85)),
 vO 87 (.mov (.t 11)),
 vO 88 (.bin .and (.t 87) (.c (.int .u8 63))),
 vO 89 (.conv .i32 (.t 88)),
 vO 90 (.bin .or (.t 86) (.t 89)),
 vO 2 (.mov (.t 90)),
 vO 3 (.mov (.c (.int .i64 3)))]
def v124_49 : VCode := (.seq (.region false r124_48) (.keep [2, 3] (.weak .ret)))
def v124_50 : VCode := (.keep [0, 5, 10, 11] (.weak .skip))
def v124_51 : VCode := (.cond (.t 77) v124_49 v124_50)
def v124_52 : VCode := (.seq (.region false r124_47) (.keep [0, 5, 10, 11, 77] (.weak v124_51)))
def r124_53 : List VOper := [
 vO 91 (.mov (.t 0)),
 vO 92 (.indexStr (.t 91) (.c (.int .i64 3))),
 vO 12 (.mov (.t 92))]
def r124_54 : List VOper := [
 vO 93 (.mov (.t 12)),
 vO 94 (.bin .lss (.t 93) (.c (.int .u8 128))),
 vO 95 (.mov (.t 94)),
 vG 96 95 false (.mov (.t 12)),
 vG 97 95 false (.bin .lss (.c (.int .u8 191)) (.t 96)),
 vO 98 (.pick (.t 95) (.c (.bool true)) (.t 97))]
def r124_55 : List VOper := [
 vO 2 (.mov (.c (.int .i32 65533))),
 vO 3 (.mov (.c (.int .i64 1)))]
def v124_56 : VCode := (.seq (.region false r124_55) (.keep [2, 3] (.weak .ret)))
def v124_57 : VCode := (.keep [5, 10, 11, 12] (.weak .skip))
def v124_58 : VCode := (.cond (.t 98) v124_56 v124_57)
def v124_59 : VCode := (.seq (.region false r124_54) (.keep [5, 10, 11, 12, 98] (.weak v124_58)))
def r124_60 : List VOper := [
 vO 99 (.mov (.t 5)),
 vO 100 (.bin .and (.t 99) (.c (.int .u8 7))),
 vO 101 (.conv .i32 (.t 100)),
 vO 102 (.bin .shl (.t 101) (.c (.int .u64 18))),
 vO 103 (.mov (.t 10)),
 vO 104 (.bin .and (.t 103) (.c (.int .u8 63))),
 vO 105 (.conv .i32 (.t 104)),
 vO 106 (.bin .shl (.t 105) (.c (.int .u64 12))),
 vO 107 (.bin .or (.t 102) (.t 106)),
 vO 108 (.mov (.t 11)),
 vO 109 (.bin .and (.t 108) (.c (.int .u8 63))),
 vO 110 (.conv .i32 (.t 109)),
 vO 111 (.bin .shl (.t 110) (.c (.int .u64 6))),
 vO 112 (.bin .or (.t 107) (.t 111)),
 vO 113 (.mov (.t 12)),
 vO 114 (.bin .and (.t 113) (.c (.int .u8 63))),
 vO 115 (.conv .i32 (.t 114)),
 vO 116 (.bin .or (.t 112) (.t 115)),
 vO 2 (.mov (.t 116)),
 vO 3 (.mov (.c (.int .i64 4)))]
def v124_61 : VCode := (.seq (.region false r124_60) (.keep [2, 3] (.weak .ret)))
def v124_62 : VCode := (.seq v124_59 v124_61)
def v124_63 : VCode := (.seq (.region false r124_53) (.keep [5, 10, 11, 12] (.weak v124_62)))
def v124_64 : VCode := (.seq v124_52 v124_63)
def v124_65 : VCode := (.seq v124_46 v124_64)
def v124_66 : VCode := (.seq (.region false r124_40) (.keep [0, 5, 8, 10, 11] (.weak v124_65)))
def v124_67 : VCode := (.seq v124_39 v124_66)
def v124_68 : VCode := (.seq v124_33 v124_67)
def v124_69 : VCode := (.seq (.region false r124_27) (.keep [0, 5, 8, 9, 10] (.weak v124_68)))
def v124_70 : VCode := (.seq v124_26 v124_69)
def v124_71 : VCode := (.seq (.region false r124_20) (.keep [0, 4, 5, 8, 9] (.weak v124_70)))
def v124_72 : VCode := (.seq (.region false r124_19) (.keep [0, 4, 5, 6, 8] (.weak v124_71)))
def v124_73 : VCode := (.seq v124_18 v124_72)
def v124_74 : VCode := (.seq (.region false r124_10) (.keep [0, 4, 5, 6] (.weak v124_73)))
def v124_75 : VCode := (.seq (.region false r124_9) (.keep [0, 4, 5] (.weak v124_74)))
def v124_76 : VCode := (.seq v124_8 v124_75)
def v124_77 : VCode := (.seq (.region false r124_2) (.keep [0, 4] (.weak v124_76)))
def v124 : VCode := (.seq (.region false r124_1) (.keep [0] (.weak v124_77)))
theorem hv124 : codeOf Tryd.prog Tryd.f124.ntmps v124 (Tryd.f124.body.getD .skip) = some v124 := by kernel_rfl
theorem ok124 {ds : List PV} {r : PV} {fl : Bool} (h : vwp Tryd.prog v124 (retQ [(2, none), (3, none)] r fl) (initSt ds)) : CallOK Tryd.prog 124 ds r fl :=
  fn_ok Tryd.func124 rfl (by decide) hv124 rfl mixed h

/- unicode_utf8_DecodeRuneInString -/
def r110_1 : List VOper := [
 vO 2 (.mov (.c (.int .i32 0))),
 vO 3 (.mov (.c (.int .i64 0)))]
def r110_2 : List VOper := [
 vO 4 (.mov (.t 0)),
 vO 5 (.bin .neq (.t 4) (.c (.str []))),
 vO 6 (.mov (.t 5)),
 vG 7 6 true (.mov (.t 0)),
 vG 8 6 true (.indexStr (.t 7) (.c (.int .i64 0))),
 vG 9 6 true (.bin .lss (.t 8) (.c (.int .u8 128))),
 vO 10 (.pick (.t 6) (.t 9) (.c (.bool false)))]
def r110_3 : List VOper := [
 vO 11 (.mov (.t 0)),
 vO 12 (.indexStr (.t 11) (.c (.int .i64 0))),
 vO 13 (.conv .i32 (.t 12)),
 vO 2 (.mov (.t 13)),
 vO 3 (.mov (.c (.int .i64 1)))]
def v110_4 : VCode := (.seq (.region false r110_3) (.keep [2, 3] (.weak .ret)))
def r110_5 : List VOper := [
 vO 15 (.mov (.t 0)),
 vO 16 (.call 124 [(.t 15)]),
 vO 14 (.mov (.t 16)),
 vO 17 (.extract (.t 14) 0),
 vO 18 (.extract (.t 14) 1),
 vO 2 (.mov (.t 17)),
 vO 3 (.mov (.t 18))]
def v110_6 : VCode := (.post [2, 3] (.region false r110_5))
def v110_7 : VCode := (.cond (.t 10) v110_4 v110_6)
def v110_8 : VCode := (.seq (.region false r110_2) (.keep [0, 10] (.weak v110_7)))
def v110_9 : VCode := (.seq v110_8 .ret)
def v110 : VCode := (.seq (.region false r110_1) (.keep [0] (.weak v110_9)))
theorem hv110 : codeOf Tryd.prog Tryd.f110.ntmps v110 (Tryd.f110.body.getD .skip) = some v110 := by kernel_rfl
theorem ok110 {ds : List PV} {r : PV} {fl : Bool} (h : vwp Tryd.prog v110 (retQ [(2, none), (3, none)] r fl) (initSt ds)) : CallOK Tryd.prog 110 ds r fl :=
  fn_ok Tryd.func110 rfl (by decide) hv110 rfl mixed h

/- strings_explode -/
def r88_1 : List VOper := [
 vO 4 (.mov (.c (.nilsl)))]
def r88_2 : List VOper := [
 vO 10 (.mov (.t 0)),
 vO 11 (.call 109 [(.t 10)]),
 vO 5 (.mov (.t 11))]
def r88_3 : List VOper := [
 vO 12 (.mov (.t 1)),
 vO 13 (.bin .lss (.t 12) (.c (.int .i64 0))),
 vO 14 (.mov (.t 13)),
 vG 15 14 false (.mov (.t 1)),
 vG 16 14 false (.mov (.t 5)),
 vG 17 14 false (.bin .gtr (.t 15) (.t 16)),
 vO 18 (.pick (.t 14) (.c (.bool true)) (.t 17))]
def r88_4 : List VOper := [
 vO 19 (.mov (.t 5)),
 vO 1 (.mov (.t 19))]
def v88_5 : VCode := (.post [0, 1] (.region false r88_4))
def v88_6 : VCode := (.keep [0, 1] (.weak .skip))
def v88_7 : VCode := (.cond (.t 18) v88_5 v88_6)
def v88_8 : VCode := (.seq (.region false r88_3) (.keep [0, 1, 5, 18] (.weak v88_7)))
def r88_9 : List VOper := [
 vO 20 (.mov (.t 1)),
 vO 21 (.makeSlice none 16 (.str []) (.t 20) (.t 20)),
 vO 6 (.mov (.t 21))]
def r88_10 : List VOper := [
 vO 7 (.mov (.c (.int .i64 0)))]
def r88_11 : List VOper := [
 vO 22 (.mov (.t 7)),
 vO 23 (.mov (.t 1)),
 vO 24 (.bin .sub (.t 23) (.c (.int .i64 1))),
 vO 25 (.bin .lss (.t 22) (.t 24))]
def v88_12 : VCode := (.keep [0, 1, 6, 7] (.weak .skip))
def v88_13 : VCode := (.keep [0, 1, 6] (.weak (.exit 0)))
def v88_14 : VCode := (.cond (.t 25) v88_12 v88_13)
def v88_15 : VCode := (.seq (.region false r88_11) (.keep [0, 1, 6, 7, 25] (.weak v88_14)))
def r88_16 : List VOper := [
 vO 29 (.mov (.t 0)),
 vO 30 (.call 110 [(.t 29)]),
 vO 28 (.mov (.t 30)),
 vO 31 (.extract (.t 28) 0),
 vO 32 (.extract (.t 28) 1),
 vO 8 (.mov (.t 31)),
 vO 9 (.mov (.t 32))]
def r88_17 : List VOper := [
 vO 33 (.mov (.t 6)),
 vO 34 (.mov (.t 7)),
 vO 35 (.mov (.t 0)),
 vO 36 (.mov (.t 9)),
 vO 37 (.slStr (.t 35) none (some (.t 36))),
 vO 38 (.indexAddr none (.t 33) (.t 34)),
 { dst := none, op := .store none (.t 38) (.t 37) }]
def r88_18 : List VOper := [
 vO 39 (.mov (.t 0)),
 vO 40 (.mov (.t 9)),
 vO 41 (.slStr (.t 39) (some (.t 40)) none),
 vO 0 (.mov (.t 41))]
def v88_19 : VCode := (.post [0, 1, 6, 7] (.region false r88_18))
def v88_20 : VCode := (.seq (.region false r88_17) (.keep [0, 1, 6, 7, 9] (.weak v88_19)))
def v88_21 : VCode := (.seq (.region false r88_16) (.keep [0, 1, 6, 7, 9] (.weak v88_20)))
def v88_22 : VCode := (.block 1 v88_21)
def r88_23 : List VOper := [
 vO 26 (.mov (.t 7)),
 vO 27 (.bin .add (.t 26) (.c (.int .i64 1))),
 vO 7 (.mov (.t 27))]
def v88_24 : VCode := (.post [0, 1, 6, 7] (.region false r88_23))
def v88_25 : VCode := (.seq v88_22 v88_24)
def v88_26 : VCode := (.seq v88_15 v88_25)
def v88_27 : VCode := (.loop [0, 1, 6, 7] v88_26)
def v88_28 : VCode := (.keep [0, 1, 6, 7] (.weak v88_27))
def v88_29 : VCode := (.block 0 v88_28)
def v88_30 : VCode := (.seq (.region false r88_10) (.keep [0, 1, 6, 7] (.weak v88_29)))
def r88_31 : List VOper := [
 vO 42 (.mov (.t 1)),
 vO 43 (.bin .gtr (.t 42) (.c (.int .i64 0)))]
def r88_32 : List VOper := [
 vO 44 (.mov (.t 6)),
 vO 45 (.mov (.t 1)),
 vO 46 (.bin .sub (.t 45) (.c (.int .i64 1))),
 vO 47 (.mov (.t 0)),
 vO 48 (.indexAddr none (.t 44) (.t 46)),
 { dst := none, op := .store none (.t 48) (.t 47) }]
def v88_33 : VCode := (.post [6] (.region false r88_32))
def v88_34 : VCode := (.keep [6] (.weak .skip))
def v88_35 : VCode := (.cond (.t 43) v88_33 v88_34)
def v88_36 : VCode := (.seq (.region false r88_31) (.keep [0, 1, 6, 43] (.weak v88_35)))
def r88_37 : List VOper := [
 vO 49 (.mov (.t 6)),
 vO 4 (.mov (.t 49))]
def v88_38 : VCode := (.seq (.region false r88_37) (.keep [4] (.weak .ret)))
def v88_39 : VCode := (.seq v88_36 v88_38)
def v88_40 : VCode := (.seq v88_30 v88_39)
def v88_41 : VCode := (.seq (.region false r88_9) (.keep [0, 1, 6] (.weak v88_40)))
def v88_42 : VCode := (.seq v88_8 v88_41)
def v88_43 : VCode := (.seq (.region false r88_2) (.keep [0, 1, 5] (.weak v88_42)))
def v88 : VCode := (.seq (.region false r88_1) (.keep [0, 1] (.weak v88_43)))
theorem hv88 : codeOf Tryd.prog Tryd.f88.ntmps v88 (Tryd.f88.body.getD .skip) = some v88 := by kernel_rfl
theorem ok88 {ds : List PV} {r : PV} {fl : Bool} (h : vwp Tryd.prog v88 (retQ [(4, none)] r fl) (initSt ds)) : CallOK Tryd.prog 88 ds r fl :=
  fn_ok Tryd.func88 rfl (by decide) hv88 rfl mixed h

/- strings_genSplit -/
def r62_1 : List VOper := [
 vO 8 (.mov (.c (.nilsl)))]
def r62_2 : List VOper := [
 vO 12 (.mov (.t 3)),
 vO 13 (.bin .eql (.t 12) (.c (.int .i64 0)))]
def r62_3 : List VOper := [
 vO 8 (.mov (.c (.nilsl)))]
def v62_4 : VCode := (.seq (.region false r62_3) (.keep [8] (.weak .ret)))
def v62_5 : VCode := (.keep [0, 1, 2, 3] (.weak .skip))
def v62_6 : VCode := (.cond (.t 13) v62_4 v62_5)
def v62_7 : VCode := (.seq (.region false r62_2) (.keep [0, 1, 2, 3, 13] (.weak v62_6)))
def r62_8 : List VOper := [
 vO 14 (.mov (.t 1)),
 vO 15 (.bin .eql (.t 14) (.c (.str [])))]
def r62_9 : List VOper := [
 vO 16 (.mov (.t 0)),
 vO 17 (.mov (.t 3)),
 vO 18 (.call 88 [(.t 16), (.t 17)]),
 vO 8 (.mov (.t 18))]
def v62_10 : VCode := (.seq (.region false r62_9) (.keep [8] (.weak .ret)))
def v62_11 : VCode := (.keep [0, 1, 2, 3] (.weak .skip))
def v62_12 : VCode := (.cond (.t 15) v62_10 v62_11)
def v62_13 : VCode := (.seq (.region false r62_8) (.keep [0, 1, 2, 3, 15] (.weak v62_12)))
def r62_14 : List VOper := [
 vO 19 (.mov (.t 3)),
 vO 20 (.bin .lss (.t 19) (.c (.int .i64 0)))]
def r62_15 : List VOper := [
 vO 21 (.mov (.t 0)),
 vO 22 (.mov (.t 1)),
 vO 23 (.call 89 [(.t 21), (.t 22)]),
 vO 24 (.bin .add (.t 23) (.c (.int .i64 1))),
 vO 3 (.mov (.t 24))]
def v62_16 : VCode := (.post [0, 1, 2, 3] (.region false r62_15))
def v62_17 : VCode := (.keep [0, 1, 2, 3] (.weak .skip))
def v62_18 : VCode := (.cond (.t 20) v62_16 v62_17)
def v62_19 : VCode := (.seq (.region false r62_14) (.keep [0, 1, 2, 3, 20] (.weak v62_18)))
def r62_20 : List VOper := [
 vO 25 (.mov (.t 3)),
 vO 26 (.mov (.t 0)),
 vO 27 (.lenStr (.t 26)),
 vO 28 (.bin .add (.t 27) (.c (.int .i64 1))),
 vO 29 (.minmax false [(.t 25), (.t 28)]),
 vO 3 (.mov (.t 29))]
def r62_21 : List VOper := [
 vO 30 (.mov (.t 3)),
 vO 31 (.makeSlice none 16 (.str []) (.t 30) (.t 30)),
 vO 9 (.mov (.t 31))]
def r62_22 : List VOper := [
 vO 32 (.mov (.t 3)),
 vO 33 (.bin .sub (.t 32) (.c (.int .i64 1))),
 vO 3 (.mov (.t 33))]
def r62_23 : List VOper := [
 vO 10 (.mov (.c (.int .i64 0)))]
def r62_24 : List VOper := [
 vO 34 (.mov (.t 10)),
 vO 35 (.mov (.t 3)),
 vO 36 (.bin .lss (.t 34) (.t 35))]
def v62_25 : VCode := (.keep [0, 1, 2, 3, 9, 10] (.weak .skip))
def v62_26 : VCode := (.keep [0, 9, 10] (.weak (.exit 0)))
def v62_27 : VCode := (.cond (.t 36) v62_25 v62_26)
def v62_28 : VCode := (.seq (.region false r62_24) (.keep [0, 1, 2, 3, 9, 10, 36] (.weak v62_27)))
def r62_29 : List VOper := [
 vO 37 (.mov (.t 0)),
 vO 38 (.mov (.t 1)),
 vO 39 (.call 90 [(.t 37), (.t 38)]),
 vO 11 (.mov (.t 39))]
def r62_30 : List VOper := [
 vO 40 (.mov (.t 11)),
 vO 41 (.bin .lss (.t 40) (.c (.int .i64 0)))]
def v62_31 : VCode := (.keep [0, 9, 10] (.weak (.exit 0)))
def v62_32 : VCode := (.keep [0, 1, 2, 3, 9, 10, 11] (.weak .skip))
def v62_33 : VCode := (.cond (.t 41) v62_31 v62_32)
def v62_34 : VCode := (.seq (.region false r62_30) (.keep [0, 1, 2, 3, 9, 10, 11, 41] (.weak v62_33)))
def r62_35 : List VOper := [
 vO 42 (.mov (.t 9)),
 vO 43 (.mov (.t 10)),
 vO 44 (.mov (.t 0)),
 vO 45 (.mov (.t 11)),
 vO 46 (.mov (.t 2)),
 vO 47 (.bin .add (.t 45) (.t 46)),
 vO 48 (.slStr (.t 44) none (some (.t 47))),
 vO 49 (.indexAddr none (.t 42) (.t 43)),
 { dst := none, op := .store none (.t 49) (.t 48) }]
def r62_36 : List VOper := [
 vO 50 (.mov (.t 0)),
 vO 51 (.mov (.t 11)),
 vO 52 (.mov (.t 1)),
 vO 53 (.lenStr (.t 52)),
 vO 54 (.bin .add (.t 51) (.t 53)),
 vO 55 (.slStr (.t 50) (some (.t 54)) none),
 vO 0 (.mov (.t 55))]
def r62_37 : List VOper := [
 vO 56 (.mov (.t 10)),
 vO 57 (.bin .add (.t 56) (.c (.int .i64 1))),
 vO 10 (.mov (.t 57))]
def v62_38 : VCode := (.post [0, 1, 2, 3, 9, 10] (.region false r62_37))
def v62_39 : VCode := (.seq (.region false r62_36) (.keep [0, 1, 2, 3, 9, 10] (.weak v62_38)))
def v62_40 : VCode := (.seq (.region false r62_35) (.keep [0, 1, 2, 3, 9, 10, 11] (.weak v62_39)))
def v62_41 : VCode := (.seq v62_34 v62_40)
def v62_42 : VCode := (.seq (.region false r62_29) (.keep [0, 1, 2, 3, 9, 10, 11] (.weak v62_41)))
def v62_43 : VCode := (.block 1 v62_42)
def v62_44 : VCode := (.seq v62_28 v62_43)
def v62_45 : VCode := (.loop [0, 1, 2, 3, 9, 10] v62_44)
def v62_46 : VCode := (.keep [0, 1, 2, 3, 9, 10] (.weak v62_45))
def v62_47 : VCode := (.block 0 v62_46)
def r62_48 : List VOper := [
 vO 58 (.mov (.t 9)),
 vO 59 (.mov (.t 10)),
 vO 60 (.mov (.t 0)),
 vO 61 (.indexAddr none (.t 58) (.t 59)),
 { dst := none, op := .store none (.t 61) (.t 60) }]
def r62_49 : List VOper := [
 vO 62 (.mov (.t 9)),
 vO 63 (.mov (.t 10)),
 vO 64 (.bin .add (.t 63) (.c (.int .i64 1))),
 vO 65 (.slSl none (.t 62) none (some (.t 64))),
 vO 8 (.mov (.t 65))]
def v62_50 : VCode := (.seq (.region false r62_49) (.keep [8] (.weak .ret)))
def v62_51 : VCode := (.seq (.region false r62_48) (.keep [9, 10] (.weak v62_50)))
def v62_52 : VCode := (.seq v62_47 v62_51)
def v62_53 : VCode := (.seq (.region false r62_23) (.keep [0, 1, 2, 3, 9, 10] (.weak v62_52)))
def v62_54 : VCode := (.seq (.region false r62_22) (.keep [0, 1, 2, 3, 9] (.weak v62_53)))
def v62_55 : VCode := (.seq (.region false r62_21) (.keep [0, 1, 2, 3, 9] (.weak v62_54)))
def v62_56 : VCode := (.seq (.region false r62_20) (.keep [0, 1, 2, 3] (.weak v62_55)))
def v62_57 : VCode := (.seq v62_19 v62_56)
def v62_58 : VCode := (.seq v62_13 v62_57)
def v62_59 : VCode := (.seq v62_7 v62_58)
def v62 : VCode := (.seq (.region false r62_1) (.keep [0, 1, 2, 3] (.weak v62_59)))
theorem hv62 : codeOf Tryd.prog Tryd.f62.ntmps v62 (Tryd.f62.body.getD .skip) = some v62 := by kernel_rfl
theorem ok62 {ds : List PV} {r : PV} {fl : Bool} (h : vwp Tryd.prog v62 (retQ [(8, none)] r fl) (initSt ds)) : CallOK Tryd.prog 62 ds r fl :=
  fn_ok Tryd.func62 rfl (by decide) hv62 rfl mixed h

/- strings_Split -/
def r31_1 : List VOper := [
 vO 4 (.mov (.c (.nilsl)))]
def r31_2 : List VOper := [
 vO 5 (.mov (.t 0)),
 vO 6 (.mov (.t 1)),
 vO 7 (.call 62 [(.t 5), (.t 6), (.c (.int .i64 0)), (.c (.int .i64 (-1)))]),
 vO 4 (.mov (.t 7))]
def v31_3 : VCode := (.seq (.region false r31_2) (.keep [4] (.weak .ret)))
def v31 : VCode := (.seq (.region false r31_1) (.keep [0, 1] (.weak v31_3)))
theorem hv31 : codeOf Tryd.prog Tryd.f31.ntmps v31 (Tryd.f31.body.getD .skip) = some v31 := by kernel_rfl
theorem ok31 {ds : List PV} {r : PV} {fl : Bool} (h : vwp Tryd.prog v31 (retQ [(4, none)] r fl) (initSt ds)) : CallOK Tryd.prog 31 ds r fl :=
  fn_ok Tryd.func31 rfl (by decide) hv31 rfl mixed h

/- dial_lines -/
def r34_1 : List VOper := [
 vO 2 (.mov (.c (.nilsl)))]
def r34_2 : List VOper := [
 vO 3 (.mov (.t 0)),
 vO 4 (.bin .eql (.t 3) (.c (.str [])))]
def r34_3 : List VOper := [
 vO 2 (.mov (.c (.nilsl)))]
def v34_4 : VCode := (.seq (.region false r34_3) (.keep [2] (.weak .ret)))
def v34_5 : VCode := (.keep [0] (.weak .skip))
def v34_6 : VCode := (.cond (.t 4) v34_4 v34_5)
def v34_7 : VCode := (.seq (.region false r34_2) (.keep [0, 4] (.weak v34_6)))
def r34_8 : List VOper := [
 vO 5 (.mov (.t 0)),
 vO 6 (.call 66 [(.t 5), (.c (.str [10]))]),
 vO 7 (.call 31 [(.t 6), (.c (.str [10]))]),
 vO 2 (.mov (.t 7))]
def v34_9 : VCode := (.seq (.region false r34_8) (.keep [2] (.weak .ret)))
def v34_10 : VCode := (.seq v34_7 v34_9)
def v34 : VCode := (.seq (.region false r34_1) (.keep [0] (.weak v34_10)))
theorem hv34 : codeOf Tryd.prog Tryd.f34.ntmps v34 (Tryd.f34.body.getD .skip) = some v34 := by kernel_rfl
theorem ok34 {ds : List PV} {r : PV} {fl : Bool} (h : vwp Tryd.prog v34 (retQ [(2, none)] r fl) (initSt ds)) : CallOK Tryd.prog 34 ds r fl :=
  fn_ok Tryd.func34 rfl (by decide) hv34 rfl mixed h

/- dial_ignored -/
def r35_1 : List VOper := [
 vO 2 (.mov (.c (.bool false)))]
def r35_2 : List VOper := [
 vO 4 (.mov (.t 0)),
 vO 5 (.lenStr (.t 4)),
 vO 6 (.mov (.c (.int .i64 0)))]
def r35_3 : List VOper := [
 vO 7 (.bin .lss (.t 6) (.t 5))]
def v35_4 : VCode := (.keep [0, 5, 6] (.weak .skip))
def v35_5 : VCode := (.keep [] (.weak (.exit 0)))
def v35_6 : VCode := (.cond (.t 7) v35_4 v35_5)
def r35_7 : List VOper := [
 vO 8 (.mov (.t 6)),
 vO 3 (.mov (.t 8))]
def r35_8 : List VOper := [
 vO 9 (.mov (.t 0)),
 vO 10 (.mov (.t 3)),
 vO 11 (.indexStr (.t 9) (.t 10)),
 vO 12 (.bin .neq (.t 11) (.c (.int .u8 32))),
 vO 13 (.mov (.t 12)),
 vG 14 13 true (.mov (.t 0)),
 vG 15 13 true (.mov (.t 3)),
 vG 16 13 true (.indexStr (.t 14) (.t 15)),
 vG 17 13 true (.bin .neq (.t 16) (.c (.int .u8 9))),
 vO 18 (.pick (.t 13) (.t 17) (.c (.bool false)))]
def r35_9 : List VOper := [
 vO 19 (.mov (.t 0)),
 vO 20 (.indexStr (.t 19) (.c (.int .i64 0))),
 vO 21 (.bin .eql (.t 20) (.c (.int .u8 35))),
 vO 2 (.mov (.t 21))]
def v35_10 : VCode := (.seq (.region false r35_9) (.keep [2] (.weak .ret)))
def v35_11 : VCode := (.keep [0, 5, 6] (.weak .skip))
def v35_12 : VCode := (.cond (.t 18) v35_10 v35_11)
def v35_13 : VCode := (.seq (.region false r35_8) (.keep [0, 5, 6, 18] (.weak v35_12)))
def v35_14 : VCode := (.seq (.region false r35_7) (.keep [0, 3, 5, 6] (.weak v35_13)))
def v35_15 : VCode := (.block 1 v35_14)
def r35_16 : List VOper := [
 vO 22 (.bin .add (.t 6) (.c (.int .i64 1))),
 vO 6 (.mov (.t 22))]
def v35_17 : VCode := (.post [0, 5, 6] (.region false r35_16))
def v35_18 : VCode := (.seq v35_15 v35_17)
def v35_19 : VCode := (.seq v35_6 v35_18)
def v35_20 : VCode := (.seq (.region false r35_3) (.keep [0, 5, 6, 7] (.weak v35_19)))
def v35_21 : VCode := (.loop [0, 5, 6] v35_20)
def v35_22 : VCode := (.keep [0, 5, 6] (.weak v35_21))
def v35_23 : VCode := (.block 0 v35_22)
def v35_24 : VCode := (.seq (.region false r35_2) (.keep [0, 5, 6] (.weak v35_23)))
def r35_25 : List VOper := [
 vO 2 (.mov (.c (.bool true)))]
def v35_26 : VCode := (.seq (.region false r35_25) (.keep [2] (.weak .ret)))
def v35_27 : VCode := (.seq v35_24 v35_26)
def v35 : VCode := (.seq (.region false r35_1) (.keep [0] (.weak v35_27)))
theorem hv35 : codeOf Tryd.prog Tryd.f35.ntmps v35 (Tryd.f35.body.getD .skip) = some v35 := by kernel_rfl
theorem ok35 {ds : List PV} {r : PV} {fl : Bool} (h : vwp Tryd.prog v35 (retQ [(2, none)] r fl) (initSt ds)) : CallOK Tryd.prog 35 ds r fl :=
  fn_ok Tryd.func35 rfl (by decide) hv35 rfl mixed h

/- attr_blank -/
def r93_1 : List VOper := [
 vO 2 (.mov (.c (.bool false)))]
def r93_2 : List VOper := [
 vO 3 (.mov (.t 0)),
 vO 4 (.bin .eql (.t 3) (.c (.int .u8 32))),
 vO 5 (.mov (.t 4)),
 vG 6 5 false (.mov (.t 0)),
 vG 7 5 false (.bin .eql (.t 6) (.c (.int .u8 9))),
 vO 8 (.pick (.t 5) (.c (.bool true)) (.t 7)),
 vO 2 (.mov (.t 8))]
def v93_3 : VCode := (.seq (.region false r93_2) (.keep [2] (.weak .ret)))
def v93 : VCode := (.seq (.region false r93_1) (.keep [0] (.weak v93_3)))
theorem hv93 : codeOf Tryd.prog Tryd.f93.ntmps v93 (Tryd.f93.body.getD .skip) = some v93 := by kernel_rfl
theorem ok93 {ds : List PV} {r : PV} {fl : Bool} (h : vwp Tryd.prog v93 (retQ [(2, none)] r fl) (initSt ds)) : CallOK Tryd.prog 93 ds r fl :=
  fn_ok Tryd.func93 rfl (by decide) hv93 rfl mixed h

/- strings_IndexByte -/
def r91_1 : List VOper := [
 vO 4 (.mov (.c (.int .i64 0)))]
def r91_2 : List VOper := [
 vO 5 (.mov (.t 0)),
 vO 6 (.mov (.t 1)),
 vO 7 (.call 113 [(.t 5), (.t 6)]),
 vO 4 (.mov (.t 7))]
def v91_3 : VCode := (.seq (.region false r91_2) (.keep [4] (.weak .ret)))
def v91 : VCode := (.seq (.region false r91_1) (.keep [0, 1] (.weak v91_3)))
theorem hv91 : codeOf Tryd.prog Tryd.f91.ntmps v91 (Tryd.f91.body.getD .skip) = some v91 := by kernel_rfl
theorem ok91 {ds : List PV} {r : PV} {fl : Bool} (h : vwp Tryd.prog v91 (retQ [(4, none)] r fl) (initSt ds)) : CallOK Tryd.prog 91 ds r fl :=
  fn_ok Tryd.func91 rfl (by decide) hv91 rfl mixed h

/- attr_until -/
def r104_1 : List VOper := [
 vO 4 (.mov (.c (.int .i64 0)))]
def r104_2 : List VOper := [
 vO 6 (.mov (.t 0)),
 vO 7 (.lenStr (.t 6)),
 vO 8 (.mov (.c (.int .i64 0)))]
def r104_3 : List VOper := [
 vO 9 (.bin .lss (.t 8) (.t 7))]
def v104_4 : VCode := (.keep [0, 1, 7, 8] (.weak .skip))
def v104_5 : VCode := (.keep [0] (.weak (.exit 0)))
def v104_6 : VCode := (.cond (.t 9) v104_4 v104_5)
def r104_7 : List VOper := [
 vO 10 (.mov (.t 8)),
 vO 5 (.mov (.t 10))]
def r104_8 : List VOper := [
 vO 11 (.mov (.t 1)),
 vO 12 (.mov (.t 0)),
 vO 13 (.mov (.t 5)),
 vO 14 (.indexStr (.t 12) (.t 13)),
 vO 15 (.call 91 [(.t 11), (.t 14)]),
 vO 16 (.bin .geq (.t 15) (.c (.int .i64 0)))]
def r104_9 : List VOper := [
 vO 17 (.mov (.t 5)),
 vO 4 (.mov (.t 17))]
def v104_10 : VCode := (.seq (.region false r104_9) (.keep [4] (.weak .ret)))
def v104_11 : VCode := (.keep [0, 1, 7, 8] (.weak .skip))
def v104_12 : VCode := (.cond (.t 16) v104_10 v104_11)
def v104_13 : VCode := (.seq (.region false r104_8) (.keep [0, 1, 5, 7, 8, 16] (.weak v104_12)))
def v104_14 : VCode := (.seq (.region false r104_7) (.keep [0, 1, 5, 7, 8] (.weak v104_13)))
def v104_15 : VCode := (.block 1 v104_14)
def r104_16 : List VOper := [
 vO 18 (.bin .add (.t 8) (.c (.int .i64 1))),
 vO 8 (.mov (.t 18))]
def v104_17 : VCode := (.post [0, 1, 7, 8] (.region false r104_16))
def v104_18 : VCode := (.seq v104_15 v104_17)
def v104_19 : VCode := (.seq v104_6 v104_18)
def v104_20 : VCode := (.seq (.region false r104_3) (.keep [0, 1, 7, 8, 9] (.weak v104_19)))
def v104_21 : VCode := (.loop [0, 1, 7, 8] v104_20)
def v104_22 : VCode := (.keep [0, 1, 7, 8] (.weak v104_21))
def v104_23 : VCode := (.block 0 v104_22)
def v104_24 : VCode := (.seq (.region false r104_2) (.keep [0, 1, 7, 8] (.weak v104_23)))
def r104_25 : List VOper := [
 vO 19 (.mov (.t 0)),
 vO 20 (.lenStr (.t 19)),
 vO 4 (.mov (.t 20))]
def v104_26 : VCode := (.seq (.region false r104_25) (.keep [4] (.weak .ret)))
def v104_27 : VCode := (.seq v104_24 v104_26)
def v104 : VCode := (.seq (.region false r104_1) (.keep [0, 1] (.weak v104_27)))
theorem hv104 : codeOf Tryd.prog Tryd.f104.ntmps v104 (Tryd.f104.body.getD .skip) = some v104 := by kernel_rfl
theorem ok104 {ds : List PV} {r : PV} {fl : Bool} (h : vwp Tryd.prog v104 (retQ [(4, none)] r fl) (initSt ds)) : CallOK Tryd.prog 104 ds r fl :=
  fn_ok Tryd.func104 rfl (by decide) hv104 rfl mixed h

/- stringslite_HasPrefix -/
def r129_1 : List VOper := [
 vO 4 (.mov (.c (.bool false)))]
def r129_2 : List VOper := [
 vO 5 (.mov (.t 0)),
 vO 6 (.lenStr (.t 5)),
 vO 7 (.mov (.t 1)),
 vO 8 (.lenStr (.t 7)),
 vO 9 (.bin .geq (.t 6) (.t 8)),
 vO 10 (.mov (.t 9)),
 vG 11 10 true (.mov (.t 0)),
 vG 12 10 true (.mov (.t 1)),
 vG 13 10 true (.lenStr (.t 12)),
 vG 14 10 true (.slStr (.t 11) none (some (.t 13))),
 vG 15 10 true (.mov (.t 1)),
 vG 16 10 true (.bin .eql (.t 14) (.t 15)),
 vO 17 (.pick (.t 10) (.t 16) (.c (.bool false))),
 vO 4 (.mov (.t 17))]
def v129_3 : VCode := (.seq (.region false r129_2) (.keep [4] (.weak .ret)))
def v129 : VCode := (.seq (.region false r129_1) (.keep [0, 1] (.weak v129_3)))
theorem hv129 : codeOf Tryd.prog Tryd.f129.ntmps v129 (Tryd.f129.body.getD .skip) = some v129 := by kernel_rfl
theorem ok129 {ds : List PV} {r : PV} {fl : Bool} (h : vwp Tryd.prog v129 (retQ [(4, none)] r fl) (initSt ds)) : CallOK Tryd.prog 129 ds r fl :=
  fn_ok Tryd.func129 rfl (by decide) hv129 rfl mixed h

/- strings_HasPrefix -/
def r115_1 : List VOper := [
 vO 4 (.mov (.c (.bool false)))]
def r115_2 : List VOper := [
 vO 5 (.mov (.t 0)),
 vO 6 (.mov (.t 1)),
 vO 7 (.call 129 [(.t 5), (.t 6)]),
 vO 4 (.mov (.t 7))]
def v115_3 : VCode := (.seq (.region false r115_2) (.keep [4] (.weak .ret)))
def v115 : VCode := (.seq (.region false r115_1) (.keep [0, 1] (.weak v115_3)))
theorem hv115 : codeOf Tryd.prog Tryd.f115.ntmps v115 (Tryd.f115.body.getD .skip) = some v115 := by kernel_rfl
theorem ok115 {ds : List PV} {r : PV} {fl : Bool} (h : vwp Tryd.prog v115 (retQ [(4, none)] r fl) (initSt ds)) : CallOK Tryd.prog 115 ds r fl :=
  fn_ok Tryd.func115 rfl (by decide) hv115 rfl mixed h

/- attr_quoted -/
def r116_1 : List VOper := [
 vO 2 (.mov (.c (.str []))),
 vO 3 (.mov (.c (.int .i64 0))),
 vO 4 (.mov (.c (.bool false)))]
def r116_2 : List VOper := [
 vO 5 (.allocB 76 5)]
def r116_3 : List VOper := [
 vO 6 (.mov (.c (.int .i64 0)))]
def r116_4 : List VOper := [
 vO 7 (.mov (.t 6)),
 vO 8 (.mov (.t 0)),
 vO 9 (.lenStr (.t 8)),
 vO 10 (.bin .lss (.t 7) (.t 9))]
def v116_5 : VCode := (.keep [0, 5, 6] (.weak .skip))
def v116_6 : VCode := (.keep [] (.weak (.exit 0)))
def v116_7 : VCode := (.cond (.t 10) v116_5 v116_6)
def v116_8 : VCode := (.seq (.region false r116_4) (.keep [0, 5, 6, 10] (.weak v116_7)))
def r116_9 : List VOper := [
 vO 13 (.mov (.t 0)),
 vO 14 (.mov (.t 6)),
 vO 15 (.indexStr (.t 13) (.t 14)),
 vO 16 (.bin .neq (.t 15) (.c (.int .u8 39)))]
def r116_10 : List VOper := [
 vO 17 (.mov (.t 0)),
 vO 18 (.mov (.t 6)),
 vO 19 (.indexStr (.t 17) (.t 18)),
 vO 20 (.call 130 [(.t 5), (.t 19)])]
def v116_11 : VCode := (.keep [0, 5, 6] (.weak (.exit 1)))
def v116_12 : VCode := (.seq (.region false r116_10) (.keep [0, 5, 6] (.weak v116_11)))
def v116_13 : VCode := (.keep [0, 5, 6] (.weak .skip))
def v116_14 : VCode := (.cond (.t 16) v116_12 v116_13)
def v116_15 : VCode := (.seq (.region false r116_9) (.keep [0, 5, 6, 16] (.weak v116_14)))
def r116_16 : List VOper := [
 vO 21 (.mov (.t 6)),
 vO 22 (.bin .add (.t 21) (.c (.int .i64 1))),
 vO 23 (.mov (.t 0)),
 vO 24 (.lenStr (.t 23)),
 vO 25 (.bin .eql (.t 22) (.t 24)),
 vO 26 (.mov (.t 25)),
 vG 27 26 false (.mov (.t 0)),
 vG 28 26 false (.mov (.t 6)),
 vG 29 26 false (.bin .add (.t 28) (.c (.int .i64 1))),
 vG 30 26 false (.indexStr (.t 27) (.t 29)),
 vG 31 26 false (.bin .neq (.t 30) (.c (.int .u8 39))),
 vO 32 (.pick (.t 26) (.c (.bool true)) (.t 31))]
def r116_17 : List VOper := [
 vO 33 (.call 59 [(.t 5)]),
 vO 34 (.mov (.t 6)),
 vO 35 (.bin .add (.t 34) (.c (.int .i64 1))),
 vO 2 (.mov (.t 33)),
 vO 3 (.mov (.t 35)),
 vO 4 (.mov (.c (.bool true)))]
def v116_18 : VCode := (.seq (.region false r116_17) (.keep [2, 3, 4] (.weak .ret)))
def v116_19 : VCode := (.keep [0, 5, 6] (.weak .skip))
def v116_20 : VCode := (.cond (.t 32) v116_18 v116_19)
def v116_21 : VCode := (.seq (.region false r116_16) (.keep [0, 5, 6, 32] (.weak v116_20)))
def r116_22 : List VOper := [
 vO 36 (.call 130 [(.t 5), (.c (.int .u8 39))])]
def r116_23 : List VOper := [
 vO 37 (.mov (.t 6)),
 vO 38 (.bin .add (.t 37) (.c (.int .i64 1))),
 vO 6 (.mov (.t 38))]
def v116_24 : VCode := (.post [0, 5, 6] (.region false r116_23))
def v116_25 : VCode := (.seq (.region false r116_22) (.keep [0, 5, 6] (.weak v116_24)))
def v116_26 : VCode := (.seq v116_21 v116_25)
def v116_27 : VCode := (.seq v116_15 v116_26)
def v116_28 : VCode := (.block 1 v116_27)
def r116_29 : List VOper := [
 vO 11 (.mov (.t 6)),
 vO 12 (.bin .add (.t 11) (.c (.int .i64 1))),
 vO 6 (.mov (.t 12))]
def v116_30 : VCode := (.post [0, 5, 6] (.region false r116_29))
def v116_31 : VCode := (.seq v116_28 v116_30)
def v116_32 : VCode := (.seq v116_8 v116_31)
def v116_33 : VCode := (.loop [0, 5, 6] v116_32)
def v116_34 : VCode := (.keep [0, 5, 6] (.weak v116_33))
def v116_35 : VCode := (.block 0 v116_34)
def v116_36 : VCode := (.seq (.region false r116_3) (.keep [0, 5, 6] (.weak v116_35)))
def r116_37 : List VOper := [
 vO 2 (.mov (.c (.str []))),
 vO 3 (.mov (.c (.int .i64 0))),
 vO 4 (.mov (.c (.bool false)))]
def v116_38 : VCode := (.seq (.region false r116_37) (.keep [2, 3, 4] (.weak .ret)))
def v116_39 : VCode := (.seq v116_36 v116_38)
def v116_40 : VCode := (.seq (.region false r116_2) (.keep [0, 5] (.weak v116_39)))
def v116 : VCode := (.seq (.region false r116_1) (.keep [0] (.weak v116_40)))
theorem hv116 : codeOf Tryd.prog Tryd.f116.ntmps v116 (Tryd.f116.body.getD .skip) = some v116 := by kernel_rfl
theorem ok116 {ds : List PV} {r : PV} {fl : Bool} (h : vwp Tryd.prog v116 (retQ [(2, none), (3, none), (4, none)] r fl) (initSt ds)) : CallOK Tryd.prog 116 ds r fl :=
  fn_ok Tryd.func116 rfl (by decide) hv116 rfl mixed h

/- strings_Contains -/
def r117_1 : List VOper := [
 vO 4 (.mov (.c (.bool false)))]
def r117_2 : List VOper := [
 vO 5 (.mov (.t 0)),
 vO 6 (.mov (.t 1)),
 vO 7 (.call 90 [(.t 5), (.t 6)]),
 vO 8 (.bin .geq (.t 7) (.c (.int .i64 0))),
 vO 4 (.mov (.t 8))]
def v117_3 : VCode := (.seq (.region false r117_2) (.keep [4] (.weak .ret)))
def v117 : VCode := (.seq (.region false r117_1) (.keep [0, 1] (.weak v117_3)))
theorem hv117 : codeOf Tryd.prog Tryd.f117.ntmps v117 (Tryd.f117.body.getD .skip) = some v117 := by kernel_rfl
theorem ok117 {ds : List PV} {r : PV} {fl : Bool} (h : vwp Tryd.prog v117 (retQ [(4, none)] r fl) (initSt ds)) : CallOK Tryd.prog 117 ds r fl :=
  fn_ok Tryd.func117 rfl (by decide) hv117 rfl mixed h

/- attr_one -/
def r94_1 : List VOper := [
 vO 2 (.alloc (some 3) (.agg [.str [], .str [], .bool false])),
 vO 3 (.mov (.c (.int .i64 0))),
 vO 4 (.mov (.c (.int .i64 0)))]
def r94_2 : List VOper := [
 vO 12 (.mov (.t 0)),
 vO 13 (.call 104 [(.t 12), (.c (.str [32, 9, 61, 63, 39]))]),
 vO 5 (.mov (.t 13))]
def r94_3 : List VOper := [
 vO 14 (.mov (.t 0)),
 vO 15 (.mov (.t 5)),
 vO 16 (.slStr (.t 14) none (some (.t 15))),
 vO 17 (.build [.str [], .str [], .bool false] [(0, 1, (.t 16))]),
 vO 6 (.alloc (some 3) (.agg [.str [], .str [], .bool false])),
 { dst := none, op := .store (some 3) (.t 6) (.t 17) }]
def r94_4 : List VOper := [
 vO 18 (.mov (.t 0)),
 vO 19 (.mov (.t 5)),
 vO 20 (.slStr (.t 18) (some (.t 19)) none),
 vO 7 (.mov (.t 20))]
def r94_5 : List VOper := [
 vO 23 (.mov (.t 7)),
 vO 24 (.call 115 [(.t 23), (.c (.str [63]))]),
 vO 22 (.mov (.t 24))]
def r94_6 : List VOper := [
 vO 25 (.fieldAddr 2 (.t 6)),
 { dst := none, op := .store none (.t 25) (.c (.bool true)) }]
def r94_7 : List VOper := [
 vO 26 (.mov (.t 5)),
 vO 27 (.bin .add (.t 26) (.c (.int .i64 1))),
 vO 5 (.mov (.t 27))]
def v94_8 : VCode := (.post [0, 2, 5, 6] (.region false r94_7))
def v94_9 : VCode := (.seq (.region false r94_6) (.keep [0, 2, 5, 6] (.weak v94_8)))
def r94_10 : List VOper := [
 vO 29 (.mov (.t 7)),
 vO 30 (.call 115 [(.t 29), (.c (.str [61, 39]))]),
 vO 28 (.mov (.t 30))]
def r94_11 : List VOper := [
 vO 32 (.mov (.t 7)),
 vO 33 (.slStr (.t 32) (some (.c (.int .i64 2))) none),
 vO 34 (.call 116 [(.t 33)]),
 vO 31 (.mov (.t 34)),
 vO 35 (.extract (.t 31) 0),
 vO 36 (.extract (.t 31) 1),
 vO 37 (.extract (.t 31) 2),
 vO 8 (.mov (.t 35)),
 vO 9 (.mov (.t 36)),
 vO 10 (.mov (.t 37))]
def r94_12 : List VOper := [
 vO 38 (.mov (.t 10)),
 vO 39 (.not (.t 38))]
def r94_13 : List VOper := [
 vO 40 (.build [.str [], .str [], .bool false] []),
 { dst := none, op := .store (some 3) (.t 2) (.t 40) },
 vO 3 (.mov (.c (.int .i64 0))),
 vO 4 (.mov (.c (.int .i64 48)))]
def v94_14 : VCode := (.seq (.region false r94_13) (.keep [2, 3, 4] (.weak .ret)))
def v94_15 : VCode := (.keep [0, 2, 5, 6, 8, 9] (.weak .skip))
def v94_16 : VCode := (.cond (.t 39) v94_14 v94_15)
def v94_17 : VCode := (.seq (.region false r94_12) (.keep [0, 2, 5, 6, 8, 9, 39] (.weak v94_16)))
def r94_18 : List VOper := [
 vO 41 (.mov (.t 8)),
 vO 42 (.fieldAddr 1 (.t 6)),
 { dst := none, op := .store none (.t 42) (.t 41) }]
def r94_19 : List VOper := [
 vO 43 (.mov (.t 5)),
 vO 44 (.mov (.t 9)),
 vO 45 (.bin .add (.c (.int .i64 2)) (.t 44)),
 vO 46 (.bin .add (.t 43) (.t 45)),
 vO 5 (.mov (.t 46))]
def v94_20 : VCode := (.post [0, 2, 5, 6] (.region false r94_19))
def v94_21 : VCode := (.seq (.region false r94_18) (.keep [0, 2, 5, 6, 9] (.weak v94_20)))
def v94_22 : VCode := (.seq v94_17 v94_21)
def v94_23 : VCode := (.seq (.region false r94_11) (.keep [0, 2, 5, 6, 8, 9, 10] (.weak v94_22)))
def r94_24 : List VOper := [
 vO 48 (.mov (.t 7)),
 vO 49 (.call 115 [(.t 48), (.c (.str [61]))]),
 vO 47 (.mov (.t 49))]
def r94_25 : List VOper := [
 vO 50 (.mov (.t 7)),
 vO 51 (.call 104 [(.t 50), (.c (.str [32, 9]))]),
 vO 11 (.mov (.t 51))]
def r94_26 : List VOper := [
 vO 52 (.mov (.t 7)),
 vO 53 (.mov (.t 11)),
 vO 54 (.slStr (.t 52) (some (.c (.int .i64 1))) (some (.t 53))),
 vO 55 (.fieldAddr 1 (.t 6)),
 { dst := none, op := .store none (.t 55) (.t 54) }]
def r94_27 : List VOper := [
 vO 56 (.fieldAddr 1 (.t 6)),
 vO 57 (.load none (.t 56)),
 vO 58 (.call 117 [(.t 57), (.c (.str [39]))])]
def r94_28 : List VOper := [
 vO 59 (.build [.str [], .str [], .bool false] []),
 { dst := none, op := .store (some 3) (.t 2) (.t 59) },
 vO 3 (.mov (.c (.int .i64 0))),
 vO 4 (.mov (.c (.int .i64 2)))]
def v94_29 : VCode := (.seq (.region false r94_28) (.keep [2, 3, 4] (.weak .ret)))
def v94_30 : VCode := (.keep [0, 2, 5, 6, 11] (.weak .skip))
def v94_31 : VCode := (.cond (.t 58) v94_29 v94_30)
def v94_32 : VCode := (.seq (.region false r94_27) (.keep [0, 2, 5, 6, 11, 58] (.weak v94_31)))
def r94_33 : List VOper := [
 vO 60 (.mov (.t 5)),
 vO 61 (.mov (.t 11)),
 vO 62 (.bin .add (.t 60) (.t 61)),
 vO 5 (.mov (.t 62))]
def v94_34 : VCode := (.post [0, 2, 5, 6] (.region false r94_33))
def v94_35 : VCode := (.seq v94_32 v94_34)
def v94_36 : VCode := (.seq (.region false r94_26) (.keep [0, 2, 5, 6, 11] (.weak v94_35)))
def v94_37 : VCode := (.seq (.region false r94_25) (.keep [0, 2, 5, 6, 7, 11] (.weak v94_36)))
def r94_38 : List VOper := [
 vO 21 (.build [.str [], .str [], .bool false] []),
 { dst := none, op := .store (some 3) (.t 2) (.t 21) },
 vO 3 (.mov (.c (.int .i64 0))),
 vO 4 (.mov (.c (.int .i64 2)))]
def v94_39 : VCode := (.seq (.region false r94_38) (.keep [2, 3, 4] (.weak .ret)))
def v94_40 : VCode := (.cond (.t 47) v94_37 v94_39)
def v94_41 : VCode := (.seq (.region false r94_24) (.keep [0, 2, 5, 6, 7, 47] (.weak v94_40)))
def v94_42 : VCode := (.cond (.t 28) v94_23 v94_41)
def v94_43 : VCode := (.seq (.region false r94_10) (.keep [0, 2, 5, 6, 7, 28] (.weak v94_42)))
def v94_44 : VCode := (.cond (.t 22) v94_9 v94_43)
def v94_45 : VCode := (.seq (.region false r94_5) (.keep [0, 2, 5, 6, 7, 22] (.weak v94_44)))
def v94_46 : VCode := (.block 0 v94_45)
def r94_47 : List VOper := [
 vO 63 (.mov (.t 5)),
 vO 64 (.mov (.t 0)),
 vO 65 (.lenStr (.t 64)),
 vO 66 (.bin .lss (.t 63) (.t 65)),
 vO 67 (.mov (.t 66)),
 vG 68 67 true (.mov (.t 0)),
 vG 69 67 true (.mov (.t 5)),
 vG 70 67 true (.indexStr (.t 68) (.t 69)),
 vG 71 67 true (.call 93 [(.t 70)]),
 vG 72 67 true (.not (.t 71)),
 vO 73 (.pick (.t 67) (.t 72) (.c (.bool false)))]
def r94_48 : List VOper := [
 vO 74 (.build [.str [], .str [], .bool false] []),
 { dst := none, op := .store (some 3) (.t 2) (.t 74) },
 vO 3 (.mov (.c (.int .i64 0))),
 vO 4 (.mov (.c (.int .i64 2)))]
def v94_49 : VCode := (.seq (.region false r94_48) (.keep [2, 3, 4] (.weak .ret)))
def v94_50 : VCode := (.keep [2, 5, 6] (.weak .skip))
def v94_51 : VCode := (.cond (.t 73) v94_49 v94_50)
def v94_52 : VCode := (.seq (.region false r94_47) (.keep [2, 5, 6, 73] (.weak v94_51)))
def r94_53 : List VOper := [
 vO 75 (.load (some 3) (.t 6)),
 vO 76 (.mov (.t 5)),
 { dst := none, op := .store (some 3) (.t 2) (.t 75) },
 vO 3 (.mov (.t 76)),
 vO 4 (.mov (.c (.int .i64 0)))]
def v94_54 : VCode := (.seq (.region false r94_53) (.keep [2, 3, 4] (.weak .ret)))
def v94_55 : VCode := (.seq v94_52 v94_54)
def v94_56 : VCode := (.seq v94_46 v94_55)
def v94_57 : VCode := (.seq (.region false r94_4) (.keep [0, 2, 5, 6, 7] (.weak v94_56)))
def v94_58 : VCode := (.seq (.region false r94_3) (.keep [0, 2, 5, 6] (.weak v94_57)))
def v94_59 : VCode := (.seq (.region false r94_2) (.keep [0, 2, 5] (.weak v94_58)))
def v94 : VCode := (.seq (.region false r94_1) (.keep [0, 2] (.weak v94_59)))
theorem hv94 : codeOf Tryd.prog Tryd.f94.ntmps v94 (Tryd.f94.body.getD .skip) = some v94 := by kernel_rfl
theorem ok94 {ds : List PV} {r : PV} {fl : Bool} (h : vwp Tryd.prog v94 (retQ [(2, some (some 3)), (3, none), (4, none)] r fl) (initSt ds)) : CallOK Tryd.prog 94 ds r fl :=
  fn_ok Tryd.func94 rfl (by decide) hv94 rfl mixed h

/- stringslite_TrimPrefix -/
def r134_1 : List VOper := [
 vO 4 (.mov (.c (.str [])))]
def r134_2 : List VOper := [
 vO 5 (.mov (.t 0)),
 vO 6 (.mov (.t 1)),
 vO 7 (.call 129 [(.t 5), (.t 6)])]
def r134_3 : List VOper := [
 vO 8 (.mov (.t 0)),
 vO 9 (.mov (.t 1)),
 vO 10 (.lenStr (.t 9)),
 vO 11 (.slStr (.t 8) (some (.t 10)) none),
 vO 4 (.mov (.t 11))]
def v134_4 : VCode := (.seq (.region false r134_3) (.keep [4] (.weak .ret)))
def v134_5 : VCode := (.keep [0] (.weak .skip))
def v134_6 : VCode := (.cond (.t 7) v134_4 v134_5)
def v134_7 : VCode := (.seq (.region false r134_2) (.keep [0, 1, 7] (.weak v134_6)))
def r134_8 : List VOper := [
 vO 12 (.mov (.t 0)),
 vO 4 (.mov (.t 12))]
def v134_9 : VCode := (.seq (.region false r134_8) (.keep [4] (.weak .ret)))
def v134_10 : VCode := (.seq v134_7 v134_9)
def v134 : VCode := (.seq (.region false r134_1) (.keep [0, 1] (.weak v134_10)))
theorem hv134 : codeOf Tryd.prog Tryd.f134.ntmps v134 (Tryd.f134.body.getD .skip) = some v134 := by kernel_rfl
theorem ok134 {ds : List PV} {r : PV} {fl : Bool} (h : vwp Tryd.prog v134 (retQ [(4, none)] r fl) (initSt ds)) : CallOK Tryd.prog 134 ds r fl :=
  fn_ok Tryd.func134 rfl (by decide) hv134 rfl mixed h

/- strings_TrimPrefix -/
def r131_1 : List VOper := [
 vO 4 (.mov (.c (.str [])))]
def r131_2 : List VOper := [
 vO 5 (.mov (.t 0)),
 vO 6 (.mov (.t 1)),
 vO 7 (.call 134 [(.t 5), (.t 6)]),
 vO 4 (.mov (.t 7))]
def v131_3 : VCode := (.seq (.region false r131_2) (.keep [4] (.weak .ret)))
def v131 : VCode := (.seq (.region false r131_1) (.keep [0, 1] (.weak v131_3)))
theorem hv131 : codeOf Tryd.prog Tryd.f131.ntmps v131 (Tryd.f131.body.getD .skip) = some v131 := by kernel_rfl
theorem ok131 {ds : List PV} {r : PV} {fl : Bool} (h : vwp Tryd.prog v131 (retQ [(4, none)] r fl) (initSt ds)) : CallOK Tryd.prog 131 ds r fl :=
  fn_ok Tryd.func131 rfl (by decide) hv131 rfl mixed h

/- attr_isName -/
def r118_1 : List VOper := [
 vO 2 (.mov (.c (.bool false)))]
def r118_2 : List VOper := [
 vO 5 (.mov (.t 0)),
 vO 6 (.call 131 [(.t 5), (.c (.str [33]))]),
 vO 0 (.mov (.t 6))]
def r118_3 : List VOper := [
 vO 7 (.mov (.t 0)),
 vO 8 (.bin .eql (.t 7) (.c (.str []))),
 vO 9 (.mov (.t 8)),
 vG 10 9 false (.mov (.t 0)),
 vG 11 9 false (.lenStr (.t 10)),
 vG 12 9 false (.bin .gtr (.t 11) (.c (.int .i64 32))),
 vO 13 (.pick (.t 9) (.c (.bool true)) (.t 12)),
 vO 14 (.mov (.t 13)),
 vG 15 14 false (.mov (.t 0)),
 vG 16 14 false (.indexStr (.t 15) (.c (.int .i64 0))),
 vG 17 14 false (.bin .lss (.t 16) (.c (.int .u8 97))),
 vO 18 (.pick (.t 14) (.c (.bool true)) (.t 17)),
 vO 19 (.mov (.t 18)),
 vG 20 19 false (.mov (.t 0)),
 vG 21 19 false (.indexStr (.t 20) (.c (.int .i64 0))),
 vG 22 19 false (.bin .gtr (.t 21) (.c (.int .u8 122))),
 vO 23 (.pick (.t 19) (.c (.bool true)) (.t 22))]
def r118_4 : List VOper := [
 vO 2 (.mov (.c (.bool false)))]
def v118_5 : VCode := (.seq (.region false r118_4) (.keep [2] (.weak .ret)))
def v118_6 : VCode := (.keep [0] (.weak .skip))
def v118_7 : VCode := (.cond (.t 23) v118_5 v118_6)
def v118_8 : VCode := (.seq (.region false r118_3) (.keep [0, 23] (.weak v118_7)))
def r118_9 : List VOper := [
 vO 24 (.mov (.t 0)),
 vO 25 (.lenStr (.t 24)),
 vO 26 (.mov (.c (.int .i64 0)))]
def r118_10 : List VOper := [
 vO 27 (.bin .lss (.t 26) (.t 25))]
def v118_11 : VCode := (.keep [0, 25, 26] (.weak .skip))
def v118_12 : VCode := (.keep [] (.weak (.exit 0)))
def v118_13 : VCode := (.cond (.t 27) v118_11 v118_12)
def r118_14 : List VOper := [
 vO 28 (.mov (.t 26)),
 vO 3 (.mov (.t 28))]
def r118_15 : List VOper := [
 vO 29 (.mov (.t 0)),
 vO 30 (.mov (.t 3)),
 vO 31 (.indexStr (.t 29) (.t 30)),
 vO 4 (.mov (.t 31))]
def r118_16 : List VOper := [
 vO 32 (.mov (.t 4)),
 vO 33 (.bin .lss (.t 32) (.c (.int .u8 97))),
 vO 34 (.mov (.t 33)),
 vG 35 34 false (.mov (.t 4)),
 vG 36 34 false (.bin .gtr (.t 35) (.c (.int .u8 122))),
 vO 37 (.pick (.t 34) (.c (.bool true)) (.t 36)),
 vO 38 (.mov (.t 37)),
 vG 39 38 true (.mov (.t 4)),
 vG 40 38 true (.bin .lss (.t 39) (.c (.int .u8 48))),
 vG 41 38 true (.mov (.t 40)),
 vG 42 41 false (.mov (.t 4)),
 vG 43 41 false (.bin .gtr (.t 42) (.c (.int .u8 57))),
 vG 44 38 true (.pick (.t 41) (.c (.bool true)) (.t 43)),
 vO 45 (.pick (.t 38) (.t 44) (.c (.bool false))),
 vO 46 (.mov (.t 45)),
 vG 47 46 true (.mov (.t 4)),
 vG 48 46 true (.bin .neq (.t 47) (.c (.int .u8 45))),
 vO 49 (.pick (.t 46) (.t 48) (.c (.bool false))),
 vO 50 (.mov (.t 49)),
 vG 51 50 true (.mov (.t 4)),
 vG 52 50 true (.bin .neq (.t 51) (.c (.int .u8 95))),
 vO 53 (.pick (.t 50) (.t 52) (.c (.bool false)))]
def r118_17 : List VOper := [
 vO 2 (.mov (.c (.bool false)))]
def v118_18 : VCode := (.seq (.region false r118_17) (.keep [2] (.weak .ret)))
def v118_19 : VCode := (.keep [0, 25, 26] (.weak .skip))
def v118_20 : VCode := (.cond (.t 53) v118_18 v118_19)
def v118_21 : VCode := (.seq (.region false r118_16) (.keep [0, 25, 26, 53] (.weak v118_20)))
def v118_22 : VCode := (.seq (.region false r118_15) (.keep [0, 4, 25, 26] (.weak v118_21)))
def v118_23 : VCode := (.seq (.region false r118_14) (.keep [0, 3, 25, 26] (.weak v118_22)))
def v118_24 : VCode := (.block 1 v118_23)
def r118_25 : List VOper := [
 vO 54 (.bin .add (.t 26) (.c (.int .i64 1))),
 vO 26 (.mov (.t 54))]
def v118_26 : VCode := (.post [0, 25, 26] (.region false r118_25))
def v118_27 : VCode := (.seq v118_24 v118_26)
def v118_28 : VCode := (.seq v118_13 v118_27)
def v118_29 : VCode := (.seq (.region false r118_10) (.keep [0, 25, 26, 27] (.weak v118_28)))
def v118_30 : VCode := (.loop [0, 25, 26] v118_29)
def v118_31 : VCode := (.keep [0, 25, 26] (.weak v118_30))
def v118_32 : VCode := (.block 0 v118_31)
def v118_33 : VCode := (.seq (.region false r118_9) (.keep [0, 25, 26] (.weak v118_32)))
def r118_34 : List VOper := [
 vO 2 (.mov (.c (.bool true)))]
def v118_35 : VCode := (.seq (.region false r118_34) (.keep [2] (.weak .ret)))
def v118_36 : VCode := (.seq v118_33 v118_35)
def v118_37 : VCode := (.seq v118_8 v118_36)
def v118_38 : VCode := (.seq (.region false r118_2) (.keep [0] (.weak v118_37)))
def v118 : VCode := (.seq (.region false r118_1) (.keep [0] (.weak v118_38)))
theorem hv118 : codeOf Tryd.prog Tryd.f118.ntmps v118 (Tryd.f118.body.getD .skip) = some v118 := by kernel_rfl
theorem ok118 {ds : List PV} {r : PV} {fl : Bool} (h : vwp Tryd.prog v118 (retQ [(2, none)] r fl) (initSt ds)) : CallOK Tryd.prog 118 ds r fl :=
  fn_ok Tryd.func118 rfl (by decide) hv118 rfl mixed h

/- attr_check_1 -/
def r119_1 : List VOper := [
 vO 2 (.box (some 3) (.t 0)),
 vO 3 (.mov (.c (.bool false)))]
def r119_2 : List VOper := [
 vO 4 (.fieldAddr 0 (.t 2)),
 vO 5 (.load none (.t 4)),
 vO 6 (.fieldAddr 0 (.t 1)),
 vO 7 (.load none (.t 6)),
 vO 8 (.bin .eql (.t 5) (.t 7)),
 vO 3 (.mov (.t 8))]
def v119_3 : VCode := (.seq (.region false r119_2) (.keep [3] (.weak .ret)))
def v119 : VCode := (.seq (.region false r119_1) (.keep [1, 2] (.weak v119_3)))
theorem hv119 : codeOf Tryd.prog Tryd.f119.ntmps v119 (Tryd.f119.body.getD .skip) = some v119 := by kernel_rfl
theorem ok119 {ds : List PV} {r : PV} {fl : Bool} (h : vwp Tryd.prog v119 (retQ [(3, none)] r fl) (initSt ds)) : CallOK Tryd.prog 119 ds r fl :=
  fn_ok Tryd.func119 rfl (by decide) hv119 rfl mixed h

/- slices_IndexFunc_api_Attr_api_Attr_f119 -/
def r99_1 : List VOper := [
 vO 4 (.mov (.c (.int .i64 0)))]
def r99_2 : List VOper := [
 vO 6 (.mov (.t 0)),
 vO 7 (.lenSl (.t 6)),
 vO 8 (.mov (.c (.int .i64 0)))]
def r99_3 : List VOper := [
 vO 9 (.bin .lss (.t 8) (.t 7))]
def v99_4 : VCode := (.keep [0, 1, 7, 8] (.weak .skip))
def v99_5 : VCode := (.keep [] (.weak (.exit 0)))
def v99_6 : VCode := (.cond (.t 9) v99_4 v99_5)
def r99_7 : List VOper := [
 vO 10 (.mov (.t 8)),
 vO 5 (.mov (.t 10))]
def r99_8 : List VOper := [
 vO 11 (.mov (.t 1)),
 vO 12 (.mov (.t 0)),
 vO 13 (.mov (.t 5)),
 vO 14 (.indexAddr (some 3) (.t 12) (.t 13)),
 vO 15 (.load (some 3) (.t 14)),
 vO 16 (.callv (.t 11) [(.t 15)])]
def r99_9 : List VOper := [
 vO 17 (.mov (.t 5)),
 vO 4 (.mov (.t 17))]
def v99_10 : VCode := (.seq (.region false r99_9) (.keep [4] (.weak .ret)))
def v99_11 : VCode := (.keep [0, 1, 7, 8] (.weak .skip))
def v99_12 : VCode := (.cond (.t 16) v99_10 v99_11)
def v99_13 : VCode := (.seq (.region false r99_8) (.keep [0, 1, 5, 7, 8, 16] (.weak v99_12)))
def v99_14 : VCode := (.seq (.region false r99_7) (.keep [0, 1, 5, 7, 8] (.weak v99_13)))
def v99_15 : VCode := (.block 1 v99_14)
def r99_16 : List VOper := [
 vO 18 (.bin .add (.t 8) (.c (.int .i64 1))),
 vO 8 (.mov (.t 18))]
def v99_17 : VCode := (.post [0, 1, 7, 8] (.region false r99_16))
def v99_18 : VCode := (.seq v99_15 v99_17)
def v99_19 : VCode := (.seq v99_6 v99_18)
def v99_20 : VCode := (.seq (.region false r99_3) (.keep [0, 1, 7, 8, 9] (.weak v99_19)))
def v99_21 : VCode := (.loop [0, 1, 7, 8] v99_20)
def v99_22 : VCode := (.keep [0, 1, 7, 8] (.weak v99_21))
def v99_23 : VCode := (.block 0 v99_22)
def v99_24 : VCode := (.seq (.region false r99_2) (.keep [0, 1, 7, 8] (.weak v99_23)))
def r99_25 : List VOper := [
 vO 4 (.mov (.c (.int .i64 (-1))))]
def v99_26 : VCode := (.seq (.region false r99_25) (.keep [4] (.weak .ret)))
def v99_27 : VCode := (.seq v99_24 v99_26)
def v99 : VCode := (.seq (.region false r99_1) (.keep [0, 1] (.weak v99_27)))
theorem hv99 : codeOf Tryd.prog Tryd.f99.ntmps v99 (Tryd.f99.body.getD .skip) = some v99 := by kernel_rfl
theorem ok99 {ds : List PV} {r : PV} {fl : Bool} (h : vwp Tryd.prog v99 (retQ [(4, none)] r fl) (initSt ds)) : CallOK Tryd.prog 99 ds r fl :=
  fn_ok Tryd.func99 rfl (by decide) hv99 rfl mixed h

/- slices_ContainsFunc_api_Attr_api_Attr_f119 -/
def r80_1 : List VOper := [
 vO 4 (.mov (.c (.bool false)))]
def r80_2 : List VOper := [
 vO 5 (.mov (.t 0)),
 vO 6 (.mov (.t 1)),
 vO 7 (.call 99 [(.t 5), (.t 6)]),
 vO 8 (.bin .geq (.t 7) (.c (.int .i64 0))),
 vO 4 (.mov (.t 8))]
def v80_3 : VCode := (.seq (.region false r80_2) (.keep [4] (.weak .ret)))
def v80 : VCode := (.seq (.region false r80_1) (.keep [0, 1] (.weak v80_3)))
theorem hv80 : codeOf Tryd.prog Tryd.f80.ntmps v80 (Tryd.f80.body.getD .skip) = some v80 := by kernel_rfl
theorem ok80 {ds : List PV} {r : PV} {fl : Bool} (h : vwp Tryd.prog v80 (retQ [(4, none)] r fl) (initSt ds)) : CallOK Tryd.prog 80 ds r fl :=
  fn_ok Tryd.func80 rfl (by decide) hv80 rfl mixed h

/- attr_check -/
def r95_1 : List VOper := [
 vO 3 (.box (some 3) (.t 1)),
 vO 4 (.mov (.c (.int .i64 0)))]
def r95_2 : List VOper := [
 vO 6 (.mov (.t 0)),
 vO 7 (.lenSl (.t 6)),
 vO 8 (.bin .geq (.t 7) (.c (.int .i64 32))),
 vO 5 (.mov (.t 8))]
def r95_3 : List VOper := [
 vO 4 (.mov (.c (.int .i64 22)))]
def v95_4 : VCode := (.seq (.region false r95_3) (.keep [4] (.weak .ret)))
def r95_5 : List VOper := [
 vO 10 (.fieldAddr 0 (.t 3)),
 vO 11 (.load none (.t 10)),
 vO 12 (.call 118 [(.t 11)]),
 vO 13 (.not (.t 12)),
 vO 9 (.mov (.t 13))]
def r95_6 : List VOper := [
 vO 4 (.mov (.c (.int .i64 6)))]
def v95_7 : VCode := (.seq (.region false r95_6) (.keep [4] (.weak .ret)))
def r95_8 : List VOper := [
 vO 15 (.fieldAddr 2 (.t 3)),
 vO 16 (.load none (.t 15)),
 vO 17 (.mov (.t 16)),
 vG 18 17 true (.fieldAddr 1 (.t 3)),
 vG 19 17 true (.load none (.t 18)),
 vG 20 17 true (.bin .neq (.t 19) (.c (.str []))),
 vO 21 (.pick (.t 17) (.t 20) (.c (.bool false))),
 vO 14 (.mov (.t 21))]
def r95_9 : List VOper := [
 vO 4 (.mov (.c (.int .i64 2)))]
def v95_10 : VCode := (.seq (.region false r95_9) (.keep [4] (.weak .ret)))
def r95_11 : List VOper := [
 vO 23 (.fieldAddr 1 (.t 3)),
 { dst := some 24, op := .load none (.t 23), bef := [0] },
 { dst := some 25, op := .call 104 [(.t 24), (.c (.str [0, 10, 13]))], bef := [0, 1] },
 vO 26 (.fieldAddr 1 (.t 3)),
 { dst := some 27, op := .load none (.t 26), bef := [3] },
 { dst := some 28, op := .lenStr (.t 27), bef := [3, 4] },
 { dst := some 29, op := .bin .lss (.t 25) (.t 28), bef := [0, 1, 2, 3, 4, 5] },
 { dst := some 22, op := .mov (.t 29), bef := [0, 1, 2, 3, 4, 5, 6] }]
def r95_12 : List VOper := [
 vO 4 (.mov (.c (.int .i64 2)))]
def v95_13 : VCode := (.seq (.region false r95_12) (.keep [4] (.weak .ret)))
def r95_14 : List VOper := [
 vO 31 (.fieldAddr 1 (.t 3)),
 vO 32 (.load none (.t 31)),
 vO 33 (.lenStr (.t 32)),
 vO 34 (.bin .gtr (.t 33) (.c (.int .i64 1024))),
 vO 30 (.mov (.t 34))]
def r95_15 : List VOper := [
 vO 4 (.mov (.c (.int .i64 4)))]
def v95_16 : VCode := (.seq (.region false r95_15) (.keep [4] (.weak .ret)))
def r95_17 : List VOper := [
 vO 36 (.mov (.t 0)),
 vO 37 (.mkfn 119 [(.t 3)]),
 vO 38 (.call 80 [(.t 36), (.t 37)]),
 vO 35 (.mov (.t 38))]
def r95_18 : List VOper := [
 vO 4 (.mov (.c (.int .i64 7)))]
def v95_19 : VCode := (.seq (.region false r95_18) (.keep [4] (.weak .ret)))
def v95_20 : VCode := (.keep [] (.weak .skip))
def v95_21 : VCode := (.cond (.t 35) v95_19 v95_20)
def v95_22 : VCode := (.seq (.region false r95_17) (.keep [35] (.weak v95_21)))
def v95_23 : VCode := (.cond (.t 30) v95_16 v95_22)
def v95_24 : VCode := (.seq (.region false r95_14) (.keep [0, 3, 30] (.weak v95_23)))
def v95_25 : VCode := (.cond (.t 22) v95_13 v95_24)
def v95_26 : VCode := (.seq (.region true r95_11) (.keep [0, 3, 22] (.weak v95_25)))
def v95_27 : VCode := (.cond (.t 14) v95_10 v95_26)
def v95_28 : VCode := (.seq (.region false r95_8) (.keep [0, 3, 14] (.weak v95_27)))
def v95_29 : VCode := (.cond (.t 9) v95_7 v95_28)
def v95_30 : VCode := (.seq (.region false r95_5) (.keep [0, 3, 9] (.weak v95_29)))
def v95_31 : VCode := (.cond (.t 5) v95_4 v95_30)
def v95_32 : VCode := (.seq (.region false r95_2) (.keep [0, 3, 5] (.weak v95_31)))
def v95_33 : VCode := (.block 0 v95_32)
def r95_34 : List VOper := [
 vO 4 (.mov (.c (.int .i64 0)))]
def v95_35 : VCode := (.seq (.region false r95_34) (.keep [4] (.weak .ret)))
def v95_36 : VCode := (.seq v95_33 v95_35)
def v95 : VCode := (.seq (.region false r95_1) (.keep [0, 3] (.weak v95_36)))
theorem hv95 : codeOf Tryd.prog Tryd.f95.ntmps v95 (Tryd.f95.body.getD .skip) = some v95 := by kernel_rfl
theorem ok95 {ds : List PV} {r : PV} {fl : Bool} (h : vwp Tryd.prog v95 (retQ [(4, none)] r fl) (initSt ds)) : CallOK Tryd.prog 95 ds r fl :=
  fn_ok Tryd.func95 rfl (by decide) hv95 rfl mixed h

/- attr_Parse -/
def r67_1 : List VOper := [
 vO 2 (.mov (.c (.nilsl))),
 vO 3 (.mov (.c (.int .i64 0))),
 vO 4 (.mov (.c (.int .i64 0)))]
def r67_2 : List VOper := [
 vO 5 (.mov (.c (.nilsl)))]
def r67_3 : List VOper := [
 vO 6 (.mov (.c (.int .i64 0)))]
def r67_4 : List VOper := [
 vO 10 (.mov (.t 6)),
 vO 11 (.mov (.t 0)),
 vO 12 (.lenStr (.t 11)),
 vO 13 (.bin .lss (.t 10) (.t 12))]
def v67_5 : VCode := (.keep [0, 5, 6] (.weak .skip))
def v67_6 : VCode := (.keep [5] (.weak (.exit 0)))
def v67_7 : VCode := (.cond (.t 13) v67_5 v67_6)
def v67_8 : VCode := (.seq (.region false r67_4) (.keep [0, 5, 6, 13] (.weak v67_7)))
def r67_9 : List VOper := [
 vO 14 (.mov (.t 0)),
 vO 15 (.mov (.t 6)),
 vO 16 (.indexStr (.t 14) (.t 15)),
 vO 17 (.call 93 [(.t 16)])]
def r67_10 : List VOper := [
 vO 18 (.mov (.t 6)),
 vO 19 (.bin .add (.t 18) (.c (.int .i64 1))),
 vO 6 (.mov (.t 19))]
def v67_11 : VCode := (.keep [0, 5, 6] (.weak (.exit 1)))
def v67_12 : VCode := (.seq (.region false r67_10) (.keep [0, 5, 6] (.weak v67_11)))
def v67_13 : VCode := (.keep [0, 5, 6] (.weak .skip))
def v67_14 : VCode := (.cond (.t 17) v67_12 v67_13)
def v67_15 : VCode := (.seq (.region false r67_9) (.keep [0, 5, 6, 17] (.weak v67_14)))
def r67_16 : List VOper := [
 vO 21 (.mov (.t 0)),
 vO 22 (.mov (.t 6)),
 vO 23 (.slStr (.t 21) (some (.t 22)) none),
 vO 24 (.call 94 [(.t 23)]),
 vO 20 (.mov (.t 24)),
 vO 25 (.extract (.t 20) 0),
 vO 26 (.extract (.t 20) 1),
 vO 27 (.extract (.t 20) 2),
 vO 7 (.alloc (some 3) (.agg [.str [], .str [], .bool false])),
 { dst := none, op := .store (some 3) (.t 7) (.t 25) },
 vO 8 (.mov (.t 26)),
 vO 9 (.mov (.t 27))]
def r67_17 : List VOper := [
 vO 28 (.mov (.t 9)),
 vO 29 (.bin .eql (.t 28) (.c (.int .i64 0)))]
def r67_18 : List VOper := [
 vO 30 (.mov (.t 5)),
 vO 31 (.load (some 3) (.t 7)),
 vO 32 (.call 95 [(.t 30), (.t 31)]),
 vO 9 (.mov (.t 32))]
def v67_19 : VCode := (.post [0, 5, 6, 7, 8, 9] (.region false r67_18))
def v67_20 : VCode := (.keep [0, 5, 6, 7, 8, 9] (.weak .skip))
def v67_21 : VCode := (.cond (.t 29) v67_19 v67_20)
def v67_22 : VCode := (.seq (.region false r67_17) (.keep [0, 5, 6, 7, 8, 9, 29] (.weak v67_21)))
def r67_23 : List VOper := [
 vO 33 (.mov (.t 9)),
 vO 34 (.bin .neq (.t 33) (.c (.int .i64 0)))]
def r67_24 : List VOper := [
 vO 35 (.mov (.t 6)),
 vO 36 (.mov (.t 9)),
 vO 2 (.mov (.c (.nilsl))),
 vO 3 (.mov (.t 35)),
 vO 4 (.mov (.t 36))]
def v67_25 : VCode := (.seq (.region false r67_24) (.keep [2, 3, 4] (.weak .ret)))
def v67_26 : VCode := (.keep [0, 5, 6, 7, 8] (.weak .skip))
def v67_27 : VCode := (.cond (.t 34) v67_25 v67_26)
def v67_28 : VCode := (.seq (.region false r67_23) (.keep [0, 5, 6, 7, 8, 9, 34] (.weak v67_27)))
def r67_29 : List VOper := [
 vO 37 (.mov (.t 5)),
 vO 38 (.load (some 3) (.t 7)),
 vO 39 (.buildSlice (some 3) (.agg [.str [], .str [], .bool false]) 1 [(0, (.t 38))]),
 vO 40 (.append (some 3) 40 (.t 37) (.t 39)),
 vO 5 (.mov (.t 40))]
def r67_30 : List VOper := [
 vO 41 (.mov (.t 6)),
 vO 42 (.mov (.t 8)),
 vO 43 (.bin .add (.t 41) (.t 42)),
 vO 6 (.mov (.t 43))]
def v67_31 : VCode := (.post [0, 5, 6] (.region false r67_30))
def v67_32 : VCode := (.seq (.region false r67_29) (.keep [0, 5, 6, 8] (.weak v67_31)))
def v67_33 : VCode := (.seq v67_28 v67_32)
def v67_34 : VCode := (.seq v67_22 v67_33)
def v67_35 : VCode := (.seq (.region false r67_16) (.keep [0, 5, 6, 7, 8, 9] (.weak v67_34)))
def v67_36 : VCode := (.seq v67_15 v67_35)
def v67_37 : VCode := (.block 1 v67_36)
def v67_38 : VCode := (.seq v67_8 v67_37)
def v67_39 : VCode := (.loop [0, 5, 6] v67_38)
def v67_40 : VCode := (.keep [0, 5, 6] (.weak v67_39))
def v67_41 : VCode := (.block 0 v67_40)
def v67_42 : VCode := (.seq (.region false r67_3) (.keep [0, 5, 6] (.weak v67_41)))
def r67_43 : List VOper := [
 vO 44 (.mov (.t 5)),
 vO 2 (.mov (.t 44)),
 vO 3 (.mov (.c (.int .i64 0))),
 vO 4 (.mov (.c (.int .i64 0)))]
def v67_44 : VCode := (.seq (.region false r67_43) (.keep [2, 3, 4] (.weak .ret)))
def v67_45 : VCode := (.seq v67_42 v67_44)
def v67_46 : VCode := (.seq (.region false r67_2) (.keep [0, 5] (.weak v67_45)))
def v67 : VCode := (.seq (.region false r67_1) (.keep [0] (.weak v67_46)))
theorem hv67 : codeOf Tryd.prog Tryd.f67.ntmps v67 (Tryd.f67.body.getD .skip) = some v67 := by kernel_rfl
theorem ok67 {ds : List PV} {r : PV} {fl : Bool} (h : vwp Tryd.prog v67 (retQ [(2, none), (3, none), (4, none)] r fl) (initSt ds)) : CallOK Tryd.prog 67 ds r fl :=
  fn_ok Tryd.func67 rfl (by decide) hv67 rfl mixed h

/- dial_asks_1 -/
def r81_1 : List VOper := [
 vO 1 (.box (some 3) (.t 0)),
 vO 2 (.mov (.c (.bool false)))]
def r81_2 : List VOper := [
 vO 3 (.fieldAddr 2 (.t 1)),
 vO 4 (.load none (.t 3)),
 vO 2 (.mov (.t 4))]
def v81_3 : VCode := (.seq (.region false r81_2) (.keep [2] (.weak .ret)))
def v81 : VCode := (.seq (.region false r81_1) (.keep [1] (.weak v81_3)))
theorem hv81 : codeOf Tryd.prog Tryd.f81.ntmps v81 (Tryd.f81.body.getD .skip) = some v81 := by kernel_rfl
theorem ok81 {ds : List PV} {r : PV} {fl : Bool} (h : vwp Tryd.prog v81 (retQ [(2, none)] r fl) (initSt ds)) : CallOK Tryd.prog 81 ds r fl :=
  fn_ok Tryd.func81 rfl (by decide) hv81 rfl mixed h

/- dial_asks -/
def r56_1 : List VOper := [
 vO 2 (.mov (.c (.bool false)))]
def r56_2 : List VOper := [
 vO 3 (.mov (.t 0)),
 vO 4 (.call 80 [(.t 3), (.c (.fn 81 []))]),
 vO 2 (.mov (.t 4))]
def v56_3 : VCode := (.seq (.region false r56_2) (.keep [2] (.weak .ret)))
def v56 : VCode := (.seq (.region false r56_1) (.keep [0] (.weak v56_3)))
theorem hv56 : codeOf Tryd.prog Tryd.f56.ntmps v56 (Tryd.f56.body.getD .skip) = some v56 := by kernel_rfl
theorem ok56 {ds : List PV} {r : PV} {fl : Bool} (h : vwp Tryd.prog v56 (retQ [(2, none)] r fl) (initSt ds)) : CallOK Tryd.prog 56 ds r fl :=
  fn_ok Tryd.func56 rfl (by decide) hv56 rfl mixed h

/- slices_Grow_api_Attr_api_Attr -/
def r96_1 : List VOper := [
 vO 4 (.mov (.c (.nilsl)))]
def r96_2 : List VOper := [
 vO 5 (.mov (.t 1)),
 vO 6 (.bin .lss (.t 5) (.c (.int .i64 0)))]
def r96_3 : List VOper := [
 vO 7 .bad,
 { dst := none, op := .bad }]
def v96_4 : VCode := (.post [0, 1] (.region false r96_3))
def v96_5 : VCode := (.keep [0, 1] (.weak .skip))
def v96_6 : VCode := (.cond (.t 6) v96_4 v96_5)
def v96_7 : VCode := (.seq (.region false r96_2) (.keep [0, 1, 6] (.weak v96_6)))
def r96_8 : List VOper := [
 vO 8 (.mov (.t 1)),
 vO 9 (.mov (.t 0)),
 vO 10 (.capNil (.t 9)),
 vO 11 (.mov (.t 0)),
 vO 12 (.lenSl (.t 11)),
 vO 13 (.bin .sub (.t 10) (.t 12)),
 vO 14 (.bin .sub (.t 8) (.t 13)),
 vO 1 (.mov (.t 14))]
def r96_9 : List VOper := [
 vO 15 (.mov (.t 1)),
 vO 16 (.bin .gtr (.t 15) (.c (.int .i64 0)))]
def r96_10 : List VOper := [
 vO 17 (.mov (.t 0)),
 vO 18 (.mov (.t 0)),
 vO 19 (.capNil (.t 18)),
 vO 20 (.slSl (some 3) (.t 17) none (some (.t 19))),
 vO 21 (.mov (.t 1)),
 vO 22 (.appZ (some 3) 40 (.agg [.str [], .str [], .bool false]) (.t 20) (.t 21)),
 vO 23 (.mov (.t 0)),
 vO 24 (.lenSl (.t 23)),
 vO 25 (.slSl (some 3) (.t 22) none (some (.t 24))),
 vO 0 (.mov (.t 25))]
def v96_11 : VCode := (.post [0] (.region false r96_10))
def v96_12 : VCode := (.keep [0] (.weak .skip))
def v96_13 : VCode := (.cond (.t 16) v96_11 v96_12)
def v96_14 : VCode := (.seq (.region false r96_9) (.keep [0, 1, 16] (.weak v96_13)))
def v96_15 : VCode := (.seq (.region false r96_8) (.keep [0, 1] (.weak v96_14)))
def r96_16 : List VOper := [
 vO 26 (.mov (.t 0)),
 vO 4 (.mov (.t 26))]
def v96_17 : VCode := (.seq (.region false r96_16) (.keep [4] (.weak .ret)))
def v96_18 : VCode := (.seq v96_15 v96_17)
def v96_19 : VCode := (.seq v96_7 v96_18)
def v96 : VCode := (.seq (.region false r96_1) (.keep [0, 1] (.weak v96_19)))
theorem hv96 : codeOf Tryd.prog Tryd.f96.ntmps v96 (Tryd.f96.body.getD .skip) = some v96 := by kernel_rfl
theorem ok96 {ds : List PV} {r : PV} {fl : Bool} (h : vwp Tryd.prog v96 (retQ [(4, none)] r fl) (initSt ds)) : CallOK Tryd.prog 96 ds r fl :=
  fn_ok Tryd.func96 rfl (by decide) hv96 rfl mixed h

/- slices_Concat_api_Attr_api_Attr -/
def r68_1 : List VOper := [
 vO 2 (.mov (.c (.nilsl)))]
def r68_2 : List VOper := [
 vO 3 (.mov (.c (.int .i64 0)))]
def r68_3 : List VOper := [
 vO 9 (.mov (.t 0)),
 vO 10 (.lenSl (.t 9)),
 vO 11 (.mov (.c (.int .i64 0)))]
def r68_4 : List VOper := [
 vO 12 (.bin .lss (.t 11) (.t 10))]
def v68_5 : VCode := (.keep [0, 3, 9, 10, 11] (.weak .skip))
def v68_6 : VCode := (.keep [0, 3] (.weak (.exit 0)))
def v68_7 : VCode := (.cond (.t 12) v68_5 v68_6)
def r68_8 : List VOper := [
 vO 13 (.indexAddr none (.t 9) (.t 11)),
 vO 14 (.load none (.t 13)),
 vO 5 (.mov (.t 14))]
def r68_9 : List VOper := [
 vO 15 (.mov (.t 3)),
 vO 16 (.mov (.t 5)),
 vO 17 (.lenSl (.t 16)),
 vO 18 (.bin .add (.t 15) (.t 17)),
 vO 3 (.mov (.t 18))]
def r68_10 : List VOper := [
 vO 19 (.mov (.t 3)),
 vO 20 (.bin .lss (.t 19) (.c (.int .i64 0)))]
def r68_11 : List VOper := [
 vO 21 .bad,
 { dst := none, op := .bad }]
def v68_12 : VCode := (.post [0, 3, 9, 10, 11] (.region false r68_11))
def v68_13 : VCode := (.keep [0, 3, 9, 10, 11] (.weak .skip))
def v68_14 : VCode := (.cond (.t 20) v68_12 v68_13)
def v68_15 : VCode := (.seq (.region false r68_10) (.keep [0, 3, 9, 10, 11, 20] (.weak v68_14)))
def v68_16 : VCode := (.seq (.region false r68_9) (.keep [0, 3, 9, 10, 11] (.weak v68_15)))
def v68_17 : VCode := (.seq (.region false r68_8) (.keep [0, 3, 5, 9, 10, 11] (.weak v68_16)))
def v68_18 : VCode := (.block 1 v68_17)
def r68_19 : List VOper := [
 vO 22 (.bin .add (.t 11) (.c (.int .i64 1))),
 vO 11 (.mov (.t 22))]
def v68_20 : VCode := (.post [0, 3, 9, 10, 11] (.region false r68_19))
def v68_21 : VCode := (.seq v68_18 v68_20)
def v68_22 : VCode := (.seq v68_7 v68_21)
def v68_23 : VCode := (.seq (.region false r68_4) (.keep [0, 3, 9, 10, 11, 12] (.weak v68_22)))
def v68_24 : VCode := (.loop [0, 3, 9, 10, 11] v68_23)
def v68_25 : VCode := (.keep [0, 3, 9, 10, 11] (.weak v68_24))
def v68_26 : VCode := (.block 0 v68_25)
def v68_27 : VCode := (.seq (.region false r68_3) (.keep [0, 3, 9, 10, 11] (.weak v68_26)))
def r68_28 : List VOper := [
 vO 23 (.mov (.t 3)),
 vO 24 (.call 96 [(.c (.nilsl)), (.t 23)]),
 vO 6 (.mov (.t 24))]
def r68_29 : List VOper := [
 vO 25 (.mov (.t 0)),
 vO 26 (.lenSl (.t 25)),
 vO 27 (.mov (.c (.int .i64 0)))]
def r68_30 : List VOper := [
 vO 28 (.bin .lss (.t 27) (.t 26))]
def v68_31 : VCode := (.keep [6, 25, 26, 27] (.weak .skip))
def v68_32 : VCode := (.keep [6] (.weak (.exit 2)))
def v68_33 : VCode := (.cond (.t 28) v68_31 v68_32)
def r68_34 : List VOper := [
 vO 29 (.indexAddr none (.t 25) (.t 27)),
 vO 30 (.load none (.t 29)),
 vO 8 (.mov (.t 30))]
def r68_35 : List VOper := [
 vO 31 (.mov (.t 6)),
 vO 32 (.mov (.t 8)),
 vO 33 (.append (some 3) 40 (.t 31) (.t 32)),
 vO 6 (.mov (.t 33))]
def v68_36 : VCode := (.post [6, 25, 26, 27] (.region false r68_35))
def v68_37 : VCode := (.seq (.region false r68_34) (.keep [6, 8, 25, 26, 27] (.weak v68_36)))
def v68_38 : VCode := (.block 3 v68_37)
def r68_39 : List VOper := [
 vO 34 (.bin .add (.t 27) (.c (.int .i64 1))),
 vO 27 (.mov (.t 34))]
def v68_40 : VCode := (.post [6, 25, 26, 27] (.region false r68_39))
def v68_41 : VCode := (.seq v68_38 v68_40)
def v68_42 : VCode := (.seq v68_33 v68_41)
def v68_43 : VCode := (.seq (.region false r68_30) (.keep [6, 25, 26, 27, 28] (.weak v68_42)))
def v68_44 : VCode := (.loop [6, 25, 26, 27] v68_43)
def v68_45 : VCode := (.keep [6, 25, 26, 27] (.weak v68_44))
def v68_46 : VCode := (.block 2 v68_45)
def v68_47 : VCode := (.seq (.region false r68_29) (.keep [6, 25, 26, 27] (.weak v68_46)))
def r68_48 : List VOper := [
 vO 35 (.mov (.t 6)),
 vO 2 (.mov (.t 35))]
def v68_49 : VCode := (.seq (.region false r68_48) (.keep [2] (.weak .ret)))
def v68_50 : VCode := (.seq v68_47 v68_49)
def v68_51 : VCode := (.seq (.region false r68_28) (.keep [0, 6] (.weak v68_50)))
def v68_52 : VCode := (.seq v68_27 v68_51)
def v68_53 : VCode := (.seq (.region false r68_2) (.keep [0, 3] (.weak v68_52)))
def v68 : VCode := (.seq (.region false r68_1) (.keep [0] (.weak v68_53)))
theorem hv68 : codeOf Tryd.prog Tryd.f68.ntmps v68 (Tryd.f68.body.getD .skip) = some v68 := by kernel_rfl
theorem ok68 {ds : List PV} {r : PV} {fl : Bool} (h : vwp Tryd.prog v68 (retQ [(2, none)] r fl) (initSt ds)) : CallOK Tryd.prog 68 ds r fl :=
  fn_ok Tryd.func68 rfl (by decide) hv68 rfl mixed h

/- attr_Check -/
def r69_1 : List VOper := [
 vO 2 (.mov (.c (.int .i64 0)))]
def r69_2 : List VOper := [
 vO 6 (.mov (.t 0)),
 vO 7 (.lenSl (.t 6)),
 vO 8 (.mov (.c (.int .i64 0)))]
def r69_3 : List VOper := [
 vO 9 (.bin .lss (.t 8) (.t 7))]
def v69_4 : VCode := (.keep [0, 6, 7, 8] (.weak .skip))
def v69_5 : VCode := (.keep [] (.weak (.exit 0)))
def v69_6 : VCode := (.cond (.t 9) v69_4 v69_5)
def r69_7 : List VOper := [
 vO 10 (.mov (.t 8)),
 vO 11 (.indexAddr (some 3) (.t 6) (.t 8)),
 vO 12 (.load (some 3) (.t 11)),
 vO 4 (.alloc (some 3) (.agg [.str [], .str [], .bool false])),
 vO 3 (.mov (.t 10)),
 { dst := none, op := .store (some 3) (.t 4) (.t 12) }]
def r69_8 : List VOper := [
 vO 13 (.mov (.t 0)),
 vO 14 (.mov (.t 3)),
 { dst := some 15, op := .slSl (some 3) (.t 13) none (some (.t 14)), bef := [0, 1] },
 vO 16 (.load (some 3) (.t 4)),
 { dst := some 17, op := .call 95 [(.t 15), (.t 16)], bef := [0, 1, 2, 3] },
 { dst := some 5, op := .mov (.t 17), bef := [0, 1, 2, 3, 4] }]
def r69_9 : List VOper := [
 vO 18 (.mov (.t 5)),
 vO 19 (.bin .neq (.t 18) (.c (.int .i64 0)))]
def r69_10 : List VOper := [
 vO 20 (.mov (.t 5)),
 vO 2 (.mov (.t 20))]
def v69_11 : VCode := (.seq (.region false r69_10) (.keep [2] (.weak .ret)))
def v69_12 : VCode := (.keep [0, 6, 7, 8] (.weak .skip))
def v69_13 : VCode := (.cond (.t 19) v69_11 v69_12)
def v69_14 : VCode := (.seq (.region false r69_9) (.keep [0, 5, 6, 7, 8, 19] (.weak v69_13)))
def v69_15 : VCode := (.seq (.region true r69_8) (.keep [0, 5, 6, 7, 8] (.weak v69_14)))
def v69_16 : VCode := (.seq (.region false r69_7) (.keep [0, 3, 4, 6, 7, 8] (.weak v69_15)))
def v69_17 : VCode := (.block 1 v69_16)
def r69_18 : List VOper := [
 vO 21 (.bin .add (.t 8) (.c (.int .i64 1))),
 vO 8 (.mov (.t 21))]
def v69_19 : VCode := (.post [0, 6, 7, 8] (.region false r69_18))
def v69_20 : VCode := (.seq v69_17 v69_19)
def v69_21 : VCode := (.seq v69_6 v69_20)
def v69_22 : VCode := (.seq (.region false r69_3) (.keep [0, 6, 7, 8, 9] (.weak v69_21)))
def v69_23 : VCode := (.loop [0, 6, 7, 8] v69_22)
def v69_24 : VCode := (.keep [0, 6, 7, 8] (.weak v69_23))
def v69_25 : VCode := (.block 0 v69_24)
def v69_26 : VCode := (.seq (.region false r69_2) (.keep [0, 6, 7, 8] (.weak v69_25)))
def r69_27 : List VOper := [
 vO 2 (.mov (.c (.int .i64 0)))]
def v69_28 : VCode := (.seq (.region false r69_27) (.keep [2] (.weak .ret)))
def v69_29 : VCode := (.seq v69_26 v69_28)
def v69 : VCode := (.seq (.region false r69_1) (.keep [0] (.weak v69_29)))
theorem hv69 : codeOf Tryd.prog Tryd.f69.ntmps v69 (Tryd.f69.body.getD .skip) = some v69 := by kernel_rfl
theorem ok69 {ds : List PV} {r : PV} {fl : Bool} (h : vwp Tryd.prog v69 (retQ [(2, none)] r fl) (initSt ds)) : CallOK Tryd.prog 69 ds r fl :=
  fn_ok Tryd.func69 rfl (by decide) hv69 rfl mixed h

/- dial_joined -/
def r36_1 : List VOper := [
 vO 4 (.mov (.c (.nilsl))),
 vO 5 (.mov (.c (.int .i64 0)))]
def r36_2 : List VOper := [
 vO 11 (.mov (.t 1)),
 vO 12 (.call 67 [(.t 11)]),
 vO 10 (.mov (.t 12)),
 vO 13 (.extract (.t 10) 0),
 vO 14 (.extract (.t 10) 1),
 vO 15 (.extract (.t 10) 2),
 vO 6 (.mov (.t 13)),
 vO 7 (.mov (.t 14)),
 vO 8 (.mov (.t 15))]
def r36_3 : List VOper := [
 vO 16 (.mov (.t 8)),
 vO 17 (.bin .neq (.t 16) (.c (.int .i64 0)))]
def r36_4 : List VOper := [
 vO 18 (.mov (.t 8)),
 vO 4 (.mov (.c (.nilsl))),
 vO 5 (.mov (.t 18))]
def v36_5 : VCode := (.seq (.region false r36_4) (.keep [4, 5] (.weak .ret)))
def v36_6 : VCode := (.keep [0, 6] (.weak .skip))
def v36_7 : VCode := (.cond (.t 17) v36_5 v36_6)
def v36_8 : VCode := (.seq (.region false r36_3) (.keep [0, 6, 8, 17] (.weak v36_7)))
def r36_9 : List VOper := [
 vO 19 (.mov (.t 6)),
 vO 20 (.call 56 [(.t 19)])]
def r36_10 : List VOper := [
 vO 4 (.mov (.c (.nilsl))),
 vO 5 (.mov (.c (.int .i64 2)))]
def v36_11 : VCode := (.seq (.region false r36_10) (.keep [4, 5] (.weak .ret)))
def v36_12 : VCode := (.keep [0, 6] (.weak .skip))
def v36_13 : VCode := (.cond (.t 20) v36_11 v36_12)
def v36_14 : VCode := (.seq (.region false r36_9) (.keep [0, 6, 20] (.weak v36_13)))
def r36_15 : List VOper := [
 vO 21 (.mov (.t 0)),
 vO 22 (.mov (.t 6)),
 vO 23 (.buildSlice none (.usl (some 3) []) 2 [(0, (.t 21)), (1, (.t 22))]),
 vO 24 (.call 68 [(.t 23)]),
 vO 9 (.mov (.t 24))]
def r36_16 : List VOper := [
 vO 25 (.mov (.t 9)),
 vO 26 (.mov (.t 9)),
 vO 27 (.call 69 [(.t 26)]),
 vO 4 (.mov (.t 25)),
 vO 5 (.mov (.t 27))]
def v36_17 : VCode := (.seq (.region false r36_16) (.keep [4, 5] (.weak .ret)))
def v36_18 : VCode := (.seq (.region false r36_15) (.keep [9] (.weak v36_17)))
def v36_19 : VCode := (.seq v36_14 v36_18)
def v36_20 : VCode := (.seq v36_8 v36_19)
def v36_21 : VCode := (.seq (.region false r36_2) (.keep [0, 6, 8] (.weak v36_20)))
def v36 : VCode := (.seq (.region false r36_1) (.keep [0, 1] (.weak v36_21)))
theorem hv36 : codeOf Tryd.prog Tryd.f36.ntmps v36 (Tryd.f36.body.getD .skip) = some v36 := by kernel_rfl
theorem ok36 {ds : List PV} {r : PV} {fl : Bool} (h : vwp Tryd.prog v36 (retQ [(4, none), (5, none)] r fl) (initSt ds)) : CallOK Tryd.prog 36 ds r fl :=
  fn_ok Tryd.func36 rfl (by decide) hv36 rfl mixed h

/- dial_Db -/
def r16_1 : List VOper := [
 vO 2 (.mov (.c (.nilsl))),
 vO 3 (.mov (.c (.int .i64 0))),
 vO 4 (.mov (.c (.int .i64 0)))]
def r16_2 : List VOper := [
 vO 5 (.mov (.c (.nilsl)))]
def r16_3 : List VOper := [
 vO 13 (.mov (.t 0)),
 vO 14 (.call 34 [(.t 13)]),
 vO 15 (.lenSl (.t 14)),
 vO 16 (.mov (.c (.int .i64 0)))]
def r16_4 : List VOper := [
 vO 17 (.bin .lss (.t 16) (.t 15))]
def v16_5 : VCode := (.keep [5, 14, 15, 16] (.weak .skip))
def v16_6 : VCode := (.keep [5] (.weak (.exit 0)))
def v16_7 : VCode := (.cond (.t 17) v16_5 v16_6)
def r16_8 : List VOper := [
 vO 18 (.mov (.t 16)),
 vO 19 (.indexAddr none (.t 14) (.t 16)),
 vO 20 (.load none (.t 19)),
 vO 6 (.mov (.t 18)),
 vO 7 (.mov (.t 20))]
def r16_9 : List VOper := [
 vO 21 (.mov (.t 7)),
 vO 22 (.call 35 [(.t 21)])]
def v16_10 : VCode := (.keep [5, 14, 15, 16] (.weak (.exit 1)))
def v16_11 : VCode := (.keep [5, 6, 7, 14, 15, 16] (.weak .skip))
def v16_12 : VCode := (.cond (.t 22) v16_10 v16_11)
def v16_13 : VCode := (.seq (.region false r16_9) (.keep [5, 6, 7, 14, 15, 16, 22] (.weak v16_12)))
def r16_14 : List VOper := [
 vO 23 (.mov (.t 5)),
 vO 24 (.lenSl (.t 23)),
 vO 25 (.bin .sub (.t 24) (.c (.int .i64 1))),
 vO 8 (.mov (.t 25))]
def r16_15 : List VOper := [
 vO 26 (.mov (.t 7)),
 vO 27 (.indexStr (.t 26) (.c (.int .i64 0))),
 vO 28 (.bin .eql (.t 27) (.c (.int .u8 32))),
 vO 29 (.mov (.t 28)),
 vG 30 29 false (.mov (.t 7)),
 vG 31 29 false (.indexStr (.t 30) (.c (.int .i64 0))),
 vG 32 29 false (.bin .eql (.t 31) (.c (.int .u8 9))),
 vO 33 (.pick (.t 29) (.c (.bool true)) (.t 32)),
 vO 9 (.mov (.t 33))]
def r16_16 : List VOper := [
 vO 10 (.mov (.c (.nilsl)))]
def r16_17 : List VOper := [
 vO 35 (.mov (.t 9)),
 vO 36 (.mov (.t 35)),
 vG 37 36 true (.mov (.t 8)),
 vG 38 36 true (.bin .lss (.t 37) (.c (.int .i64 0))),
 vO 39 (.pick (.t 36) (.t 38) (.c (.bool false))),
 vO 34 (.mov (.t 39))]
def r16_18 : List VOper := [
 vO 40 (.mov (.t 6)),
 vO 2 (.mov (.c (.nilsl))),
 vO 3 (.mov (.t 40)),
 vO 4 (.mov (.c (.int .i64 2)))]
def v16_19 : VCode := (.seq (.region false r16_18) (.keep [2, 3, 4] (.weak .ret)))
def r16_20 : List VOper := [
 vO 42 (.mov (.t 9)),
 vO 41 (.mov (.t 42))]
def r16_21 : List VOper := [
 vO 43 (.mov (.t 5)),
 vO 44 (.mov (.t 8)),
 vO 45 (.indexAddr (some 1) (.t 43) (.t 44)),
 vO 46 (.fieldAddr 0 (.t 45)),
 vO 47 (.load none (.t 46)),
 vO 10 (.mov (.t 47))]
def v16_22 : VCode := (.post [5, 6, 7, 8, 9, 10, 14, 15, 16] (.region false r16_21))
def r16_23 : List VOper := [
 vO 49 (.mov (.t 5)),
 vO 50 (.lenSl (.t 49)),
 vO 51 (.bin .geq (.t 50) (.c (.int .i64 256))),
 vO 48 (.mov (.t 51))]
def r16_24 : List VOper := [
 vO 52 (.mov (.t 6)),
 vO 2 (.mov (.c (.nilsl))),
 vO 3 (.mov (.t 52)),
 vO 4 (.mov (.c (.int .i64 22)))]
def v16_25 : VCode := (.seq (.region false r16_24) (.keep [2, 3, 4] (.weak .ret)))
def v16_26 : VCode := (.keep [5, 6, 7, 8, 9, 10, 14, 15, 16] (.weak .skip))
def v16_27 : VCode := (.cond (.t 48) v16_25 v16_26)
def v16_28 : VCode := (.seq (.region false r16_23) (.keep [5, 6, 7, 8, 9, 10, 14, 15, 16, 48] (.weak v16_27)))
def v16_29 : VCode := (.cond (.t 41) v16_22 v16_28)
def v16_30 : VCode := (.seq (.region false r16_20) (.keep [5, 6, 7, 8, 9, 10, 14, 15, 16, 41] (.weak v16_29)))
def v16_31 : VCode := (.cond (.t 34) v16_19 v16_30)
def v16_32 : VCode := (.seq (.region false r16_17) (.keep [5, 6, 7, 8, 9, 10, 14, 15, 16, 34] (.weak v16_31)))
def v16_33 : VCode := (.block 2 v16_32)
def r16_34 : List VOper := [
 vO 54 (.mov (.t 10)),
 vO 55 (.mov (.t 7)),
 vO 56 (.call 36 [(.t 54), (.t 55)]),
 vO 53 (.mov (.t 56)),
 vO 57 (.extract (.t 53) 0),
 vO 58 (.extract (.t 53) 1),
 vO 11 (.mov (.t 57)),
 vO 12 (.mov (.t 58))]
def r16_35 : List VOper := [
 vO 59 (.mov (.t 12)),
 vO 60 (.bin .neq (.t 59) (.c (.int .i64 0)))]
def r16_36 : List VOper := [
 vO 61 (.mov (.t 6)),
 vO 62 (.mov (.t 12)),
 vO 2 (.mov (.c (.nilsl))),
 vO 3 (.mov (.t 61)),
 vO 4 (.mov (.t 62))]
def v16_37 : VCode := (.seq (.region false r16_36) (.keep [2, 3, 4] (.weak .ret)))
def v16_38 : VCode := (.keep [5, 8, 9, 11, 14, 15, 16] (.weak .skip))
def v16_39 : VCode := (.cond (.t 60) v16_37 v16_38)
def v16_40 : VCode := (.seq (.region false r16_35) (.keep [5, 6, 8, 9, 11, 12, 14, 15, 16, 60] (.weak v16_39)))
def r16_41 : List VOper := [
 vO 63 (.mov (.t 9))]
def r16_42 : List VOper := [
 vO 64 (.mov (.t 5)),
 vO 65 (.mov (.t 8)),
 vO 66 (.mov (.t 11)),
 vO 67 (.indexAddr (some 1) (.t 64) (.t 65)),
 vO 68 (.fieldAddr 0 (.t 67)),
 { dst := none, op := .store none (.t 68) (.t 66) }]
def v16_43 : VCode := (.post [5, 14, 15, 16] (.region false r16_42))
def r16_44 : List VOper := [
 vO 69 (.mov (.t 5)),
 vO 70 (.mov (.t 11)),
 vO 71 (.build [.usl (some 3) []] [(0, 1, (.t 70))]),
 vO 72 (.buildSlice (some 1) (.agg [.usl (some 3) []]) 1 [(0, (.t 71))]),
 vO 73 (.append (some 1) 24 (.t 69) (.t 72)),
 vO 5 (.mov (.t 73))]
def v16_45 : VCode := (.post [5, 14, 15, 16] (.region false r16_44))
def v16_46 : VCode := (.cond (.t 63) v16_43 v16_45)
def v16_47 : VCode := (.seq (.region false r16_41) (.keep [5, 8, 11, 14, 15, 16, 63] (.weak v16_46)))
def v16_48 : VCode := (.seq v16_40 v16_47)
def v16_49 : VCode := (.seq (.region false r16_34) (.keep [5, 6, 8, 9, 11, 12, 14, 15, 16] (.weak v16_48)))
def v16_50 : VCode := (.seq v16_33 v16_49)
def v16_51 : VCode := (.seq (.region false r16_16) (.keep [5, 6, 7, 8, 9, 10, 14, 15, 16] (.weak v16_50)))
def v16_52 : VCode := (.seq (.region false r16_15) (.keep [5, 6, 7, 8, 9, 14, 15, 16] (.weak v16_51)))
def v16_53 : VCode := (.seq (.region false r16_14) (.keep [5, 6, 7, 8, 14, 15, 16] (.weak v16_52)))
def v16_54 : VCode := (.seq v16_13 v16_53)
def v16_55 : VCode := (.seq (.region false r16_8) (.keep [5, 6, 7, 14, 15, 16] (.weak v16_54)))
def v16_56 : VCode := (.block 1 v16_55)
def r16_57 : List VOper := [
 vO 74 (.bin .add (.t 16) (.c (.int .i64 1))),
 vO 16 (.mov (.t 74))]
def v16_58 : VCode := (.post [5, 14, 15, 16] (.region false r16_57))
def v16_59 : VCode := (.seq v16_56 v16_58)
def v16_60 : VCode := (.seq v16_7 v16_59)
def v16_61 : VCode := (.seq (.region false r16_4) (.keep [5, 14, 15, 16, 17] (.weak v16_60)))
def v16_62 : VCode := (.loop [5, 14, 15, 16] v16_61)
def v16_63 : VCode := (.keep [5, 14, 15, 16] (.weak v16_62))
def v16_64 : VCode := (.block 0 v16_63)
def v16_65 : VCode := (.seq (.region false r16_3) (.keep [5, 14, 15, 16] (.weak v16_64)))
def r16_66 : List VOper := [
 vO 75 (.mov (.t 5)),
 vO 2 (.mov (.t 75)),
 vO 3 (.mov (.c (.int .i64 0))),
 vO 4 (.mov (.c (.int .i64 0)))]
def v16_67 : VCode := (.seq (.region false r16_66) (.keep [2, 3, 4] (.weak .ret)))
def v16_68 : VCode := (.seq v16_65 v16_67)
def v16_69 : VCode := (.seq (.region false r16_2) (.keep [0, 5] (.weak v16_68)))
def v16 : VCode := (.seq (.region false r16_1) (.keep [0] (.weak v16_69)))
theorem hv16 : codeOf Tryd.prog Tryd.f16.ntmps v16 (Tryd.f16.body.getD .skip) = some v16 := by kernel_rfl
theorem ok16 {ds : List PV} {r : PV} {fl : Bool} (h : vwp Tryd.prog v16 (retQ [(2, none), (3, none), (4, none)] r fl) (initSt ds)) : CallOK Tryd.prog 16 ds r fl :=
  fn_ok Tryd.func16 rfl (by decide) hv16 rfl mixed h

/- dial_made -/
def r63_1 : List VOper := [
 vO 6 (.mov (.c (.bool false)))]
def r63_2 : List VOper := [
 vO 9 (.mov (.t 0)),
 vO 10 (.bin .eql (.t 9) (.c (.str []))),
 vO 11 (.mov (.t 10)),
 vG 12 11 false (.mov (.t 0)),
 vG 13 11 false (.lenStr (.t 12)),
 vG 14 11 false (.mov (.t 1)),
 vG 15 11 false (.bin .gtr (.t 13) (.t 14)),
 vO 16 (.pick (.t 11) (.c (.bool true)) (.t 15))]
def r63_3 : List VOper := [
 vO 6 (.mov (.c (.bool false)))]
def v63_4 : VCode := (.seq (.region false r63_3) (.keep [6] (.weak .ret)))
def v63_5 : VCode := (.keep [0, 2] (.weak .skip))
def v63_6 : VCode := (.cond (.t 16) v63_4 v63_5)
def v63_7 : VCode := (.seq (.region false r63_2) (.keep [0, 2, 16] (.weak v63_6)))
def r63_8 : List VOper := [
 vO 17 (.mov (.t 0)),
 vO 18 (.lenStr (.t 17)),
 vO 19 (.mov (.c (.int .i64 0)))]
def r63_9 : List VOper := [
 vO 20 (.bin .lss (.t 19) (.t 18))]
def v63_10 : VCode := (.keep [0, 2, 18, 19] (.weak .skip))
def v63_11 : VCode := (.keep [] (.weak (.exit 0)))
def v63_12 : VCode := (.cond (.t 20) v63_10 v63_11)
def r63_13 : List VOper := [
 vO 21 (.mov (.t 19)),
 vO 7 (.mov (.t 21))]
def r63_14 : List VOper := [
 vO 22 (.mov (.t 0)),
 vO 23 (.mov (.t 7)),
 vO 24 (.indexStr (.t 22) (.t 23)),
 vO 8 (.mov (.t 24))]
def r63_15 : List VOper := [
 vO 25 (.mov (.t 8)),
 vO 26 (.bin .lss (.t 25) (.c (.int .u8 97))),
 vO 27 (.mov (.t 26)),
 vG 28 27 false (.mov (.t 8)),
 vG 29 27 false (.bin .gtr (.t 28) (.c (.int .u8 122))),
 vO 30 (.pick (.t 27) (.c (.bool true)) (.t 29)),
 vO 31 (.mov (.t 30)),
 vG 32 31 true (.mov (.t 8)),
 vG 33 31 true (.bin .lss (.t 32) (.c (.int .u8 48))),
 vG 34 31 true (.mov (.t 33)),
 vG 35 34 false (.mov (.t 8)),
 vG 36 34 false (.bin .gtr (.t 35) (.c (.int .u8 57))),
 vG 37 31 true (.pick (.t 34) (.c (.bool true)) (.t 36)),
 vO 38 (.pick (.t 31) (.t 37) (.c (.bool false))),
 vO 39 (.mov (.t 38)),
 vG 40 39 true (.mov (.t 2)),
 vG 41 39 true (.mov (.t 8)),
 vG 42 39 true (.call 91 [(.t 40), (.t 41)]),
 vG 43 39 true (.bin .lss (.t 42) (.c (.int .i64 0))),
 vO 44 (.pick (.t 39) (.t 43) (.c (.bool false)))]
def r63_16 : List VOper := [
 vO 6 (.mov (.c (.bool false)))]
def v63_17 : VCode := (.seq (.region false r63_16) (.keep [6] (.weak .ret)))
def v63_18 : VCode := (.keep [0, 2, 18, 19] (.weak .skip))
def v63_19 : VCode := (.cond (.t 44) v63_17 v63_18)
def v63_20 : VCode := (.seq (.region false r63_15) (.keep [0, 2, 18, 19, 44] (.weak v63_19)))
def v63_21 : VCode := (.seq (.region false r63_14) (.keep [0, 2, 8, 18, 19] (.weak v63_20)))
def v63_22 : VCode := (.seq (.region false r63_13) (.keep [0, 2, 7, 18, 19] (.weak v63_21)))
def v63_23 : VCode := (.block 1 v63_22)
def r63_24 : List VOper := [
 vO 45 (.bin .add (.t 19) (.c (.int .i64 1))),
 vO 19 (.mov (.t 45))]
def v63_25 : VCode := (.post [0, 2, 18, 19] (.region false r63_24))
def v63_26 : VCode := (.seq v63_23 v63_25)
def v63_27 : VCode := (.seq v63_12 v63_26)
def v63_28 : VCode := (.seq (.region false r63_9) (.keep [0, 2, 18, 19, 20] (.weak v63_27)))
def v63_29 : VCode := (.loop [0, 2, 18, 19] v63_28)
def v63_30 : VCode := (.keep [0, 2, 18, 19] (.weak v63_29))
def v63_31 : VCode := (.block 0 v63_30)
def v63_32 : VCode := (.seq (.region false r63_8) (.keep [0, 2, 18, 19] (.weak v63_31)))
def r63_33 : List VOper := [
 vO 6 (.mov (.c (.bool true)))]
def v63_34 : VCode := (.seq (.region false r63_33) (.keep [6] (.weak .ret)))
def v63_35 : VCode := (.seq v63_32 v63_34)
def v63_36 : VCode := (.seq v63_7 v63_35)
def v63 : VCode := (.seq (.region false r63_1) (.keep [0, 1, 2] (.weak v63_36)))
theorem hv63 : codeOf Tryd.prog Tryd.f63.ntmps v63 (Tryd.f63.body.getD .skip) = some v63 := by kernel_rfl
theorem ok63 {ds : List PV} {r : PV} {fl : Bool} (h : vwp Tryd.prog v63 (retQ [(6, none)] r fl) (initSt ds)) : CallOK Tryd.prog 63 ds r fl :=
  fn_ok Tryd.func63 rfl (by decide) hv63 rfl mixed h

/- dial_isNet -/
def r64_1 : List VOper := [
 vO 2 (.mov (.c (.bool false)))]
def r64_2 : List VOper := [
 vO 3 (.mov (.t 0)),
 vO 4 (.call 63 [(.t 3), (.c (.int .i64 32)), (.c (.str [45, 95]))]),
 vO 5 (.mov (.t 4)),
 vG 6 5 true (.mov (.t 0)),
 vG 7 5 true (.indexStr (.t 6) (.c (.int .i64 0))),
 vG 8 5 true (.bin .geq (.t 7) (.c (.int .u8 97))),
 vO 9 (.pick (.t 5) (.t 8) (.c (.bool false))),
 vO 10 (.mov (.t 9)),
 vG 11 10 true (.mov (.t 0)),
 vG 12 10 true (.indexStr (.t 11) (.c (.int .i64 0))),
 vG 13 10 true (.bin .leq (.t 12) (.c (.int .u8 122))),
 vO 14 (.pick (.t 10) (.t 13) (.c (.bool false))),
 vO 2 (.mov (.t 14))]
def v64_3 : VCode := (.seq (.region false r64_2) (.keep [2] (.weak .ret)))
def v64 : VCode := (.seq (.region false r64_1) (.keep [0] (.weak v64_3)))
theorem hv64 : codeOf Tryd.prog Tryd.f64.ntmps v64 (Tryd.f64.body.getD .skip) = some v64 := by kernel_rfl
theorem ok64 {ds : List PV} {r : PV} {fl : Bool} (h : vwp Tryd.prog v64 (retQ [(2, none)] r fl) (initSt ds)) : CallOK Tryd.prog 64 ds r fl :=
  fn_ok Tryd.func64 rfl (by decide) hv64 rfl mixed h

/- dial_isHost -/
def r65_1 : List VOper := [
 vO 2 (.mov (.c (.bool false)))]
def r65_2 : List VOper := [
 vO 3 (.mov (.t 0)),
 vO 4 (.call 63 [(.t 3), (.c (.int .i64 64)), (.c (.str [45, 95, 46]))]),
 vO 2 (.mov (.t 4))]
def v65_3 : VCode := (.seq (.region false r65_2) (.keep [2] (.weak .ret)))
def v65 : VCode := (.seq (.region false r65_1) (.keep [0] (.weak v65_3)))
theorem hv65 : codeOf Tryd.prog Tryd.f65.ntmps v65 (Tryd.f65.body.getD .skip) = some v65 := by kernel_rfl
theorem ok65 {ds : List PV} {r : PV} {fl : Bool} (h : vwp Tryd.prog v65 (retQ [(2, none)] r fl) (initSt ds)) : CallOK Tryd.prog 65 ds r fl :=
  fn_ok Tryd.func65 rfl (by decide) hv65 rfl mixed h

/- dial_valid -/
def r32_1 : List VOper := [
 vO 1 (.box (some 3) (.t 0)),
 vO 2 (.mov (.c (.bool false)))]
def r32_2 : List VOper := [
 vO 4 (.fieldAddr 2 (.t 1)),
 vO 5 (.load none (.t 4)),
 vO 6 (.bin .eql (.t 5) (.c (.str []))),
 vO 7 (.mov (.t 6)),
 vG 8 7 false (.fieldAddr 2 (.t 1)),
 vG 9 7 false (.load none (.t 8)),
 vG 10 7 false (.call 63 [(.t 9), (.c (.int .i64 32)), (.c (.str [45, 95]))]),
 vO 11 (.pick (.t 7) (.c (.bool true)) (.t 10)),
 vO 3 (.mov (.t 11))]
def r32_3 : List VOper := [
 vO 12 (.fieldAddr 0 (.t 1)),
 vO 13 (.load none (.t 12)),
 vO 14 (.call 64 [(.t 13)]),
 vO 15 (.mov (.t 14)),
 vG 16 15 true (.fieldAddr 1 (.t 1)),
 vG 17 15 true (.load none (.t 16)),
 vG 18 15 true (.bin .eql (.t 17) (.c (.str [42]))),
 vG 19 15 true (.mov (.t 18)),
 vG 20 19 false (.fieldAddr 1 (.t 1)),
 vG 21 19 false (.load none (.t 20)),
 vG 22 19 false (.call 65 [(.t 21)]),
 vG 23 15 true (.pick (.t 19) (.c (.bool true)) (.t 22)),
 vO 24 (.pick (.t 15) (.t 23) (.c (.bool false))),
 vO 25 (.mov (.t 24)),
 vG 26 25 true (.mov (.t 3)),
 vO 27 (.pick (.t 25) (.t 26) (.c (.bool false))),
 vO 2 (.mov (.t 27))]
def v32_4 : VCode := (.seq (.region false r32_3) (.keep [2] (.weak .ret)))
def v32_5 : VCode := (.seq (.region false r32_2) (.keep [1, 3] (.weak v32_4)))
def v32 : VCode := (.seq (.region false r32_1) (.keep [1] (.weak v32_5)))
theorem hv32 : codeOf Tryd.prog Tryd.f32.ntmps v32 (Tryd.f32.body.getD .skip) = some v32 := by kernel_rfl
theorem ok32 {ds : List PV} {r : PV} {fl : Bool} (h : vwp Tryd.prog v32 (retQ [(2, none)] r fl) (initSt ds)) : CallOK Tryd.prog 32 ds r fl :=
  fn_ok Tryd.func32 rfl (by decide) hv32 rfl mixed h

/- attr_index_1 -/
def r100_1 : List VOper := [
 vO 2 (.box (some 3) (.t 0)),
 vO 3 (.mov (.c (.bool false)))]
def r100_2 : List VOper := [
 vO 4 (.fieldAddr 2 (.t 2)),
 vO 5 (.load none (.t 4)),
 vO 6 (.not (.t 5)),
 vO 7 (.mov (.t 6)),
 vG 8 7 true (.fieldAddr 0 (.t 2)),
 vG 9 7 true (.load none (.t 8)),
 vG 10 7 true (.load none (.t 1)),
 vG 11 7 true (.bin .eql (.t 9) (.t 10)),
 vO 12 (.pick (.t 7) (.t 11) (.c (.bool false))),
 vO 3 (.mov (.t 12))]
def v100_3 : VCode := (.seq (.region false r100_2) (.keep [3] (.weak .ret)))
def v100 : VCode := (.seq (.region false r100_1) (.keep [1, 2] (.weak v100_3)))
theorem hv100 : codeOf Tryd.prog Tryd.f100.ntmps v100 (Tryd.f100.body.getD .skip) = some v100 := by kernel_rfl
theorem ok100 {ds : List PV} {r : PV} {fl : Bool} (h : vwp Tryd.prog v100 (retQ [(3, none)] r fl) (initSt ds)) : CallOK Tryd.prog 100 ds r fl :=
  fn_ok Tryd.func100 rfl (by decide) hv100 rfl mixed h

/- attr_index -/
def r72_1 : List VOper := [
 vO 3 (.box none (.t 1)),
 vO 4 (.mov (.c (.int .i64 0)))]
def r72_2 : List VOper := [
 vO 5 (.mov (.t 0)),
 vO 6 (.mkfn 100 [(.t 3)]),
 vO 7 (.call 99 [(.t 5), (.t 6)]),
 vO 4 (.mov (.t 7))]
def v72_3 : VCode := (.seq (.region false r72_2) (.keep [4] (.weak .ret)))
def v72 : VCode := (.seq (.region false r72_1) (.keep [0, 3] (.weak v72_3)))
theorem hv72 : codeOf Tryd.prog Tryd.f72.ntmps v72 (Tryd.f72.body.getD .skip) = some v72 := by kernel_rfl
theorem ok72 {ds : List PV} {r : PV} {fl : Bool} (h : vwp Tryd.prog v72 (retQ [(4, none)] r fl) (initSt ds)) : CallOK Tryd.prog 72 ds r fl :=
  fn_ok Tryd.func72 rfl (by decide) hv72 rfl mixed h

/- attr_Find -/
def r42_1 : List VOper := [
 vO 4 (.mov (.c (.str []))),
 vO 5 (.mov (.c (.bool false)))]
def r42_2 : List VOper := [
 vO 7 (.mov (.t 0)),
 vO 8 (.mov (.t 1)),
 vO 9 (.call 72 [(.t 7), (.t 8)]),
 vO 6 (.mov (.t 9))]
def r42_3 : List VOper := [
 vO 10 (.mov (.t 6)),
 vO 11 (.bin .lss (.t 10) (.c (.int .i64 0)))]
def r42_4 : List VOper := [
 vO 4 (.mov (.c (.str []))),
 vO 5 (.mov (.c (.bool false)))]
def v42_5 : VCode := (.seq (.region false r42_4) (.keep [4, 5] (.weak .ret)))
def v42_6 : VCode := (.keep [0, 6] (.weak .skip))
def v42_7 : VCode := (.cond (.t 11) v42_5 v42_6)
def v42_8 : VCode := (.seq (.region false r42_3) (.keep [0, 6, 11] (.weak v42_7)))
def r42_9 : List VOper := [
 vO 12 (.mov (.t 0)),
 vO 13 (.mov (.t 6)),
 vO 14 (.indexAddr (some 3) (.t 12) (.t 13)),
 vO 15 (.fieldAddr 1 (.t 14)),
 vO 16 (.load none (.t 15)),
 vO 4 (.mov (.t 16)),
 vO 5 (.mov (.c (.bool true)))]
def v42_10 : VCode := (.seq (.region false r42_9) (.keep [4, 5] (.weak .ret)))
def v42_11 : VCode := (.seq v42_8 v42_10)
def v42_12 : VCode := (.seq (.region false r42_2) (.keep [0, 6] (.weak v42_11)))
def v42 : VCode := (.seq (.region false r42_1) (.keep [0, 1] (.weak v42_12)))
theorem hv42 : codeOf Tryd.prog Tryd.f42.ntmps v42 (Tryd.f42.body.getD .skip) = some v42 := by kernel_rfl
theorem ok42 {ds : List PV} {r : PV} {fl : Bool} (h : vwp Tryd.prog v42 (retQ [(4, none), (5, none)] r fl) (initSt ds)) : CallOK Tryd.prog 42 ds r fl :=
  fn_ok Tryd.func42 rfl (by decide) hv42 rfl mixed h

/- slices_Index_string_string -/
def r101_1 : List VOper := [
 vO 4 (.mov (.c (.int .i64 0)))]
def r101_2 : List VOper := [
 vO 6 (.mov (.t 0)),
 vO 7 (.lenSl (.t 6)),
 vO 8 (.mov (.c (.int .i64 0)))]
def r101_3 : List VOper := [
 vO 9 (.bin .lss (.t 8) (.t 7))]
def v101_4 : VCode := (.keep [0, 1, 7, 8] (.weak .skip))
def v101_5 : VCode := (.keep [] (.weak (.exit 0)))
def v101_6 : VCode := (.cond (.t 9) v101_4 v101_5)
def r101_7 : List VOper := [
 vO 10 (.mov (.t 8)),
 vO 5 (.mov (.t 10))]
def r101_8 : List VOper := [
 vO 11 (.mov (.t 1)),
 vO 12 (.mov (.t 0)),
 vO 13 (.mov (.t 5)),
 vO 14 (.indexAddr none (.t 12) (.t 13)),
 vO 15 (.load none (.t 14)),
 vO 16 (.bin .eql (.t 11) (.t 15))]
def r101_9 : List VOper := [
 vO 17 (.mov (.t 5)),
 vO 4 (.mov (.t 17))]
def v101_10 : VCode := (.seq (.region false r101_9) (.keep [4] (.weak .ret)))
def v101_11 : VCode := (.keep [0, 1, 7, 8] (.weak .skip))
def v101_12 : VCode := (.cond (.t 16) v101_10 v101_11)
def v101_13 : VCode := (.seq (.region false r101_8) (.keep [0, 1, 5, 7, 8, 16] (.weak v101_12)))
def v101_14 : VCode := (.seq (.region false r101_7) (.keep [0, 1, 5, 7, 8] (.weak v101_13)))
def v101_15 : VCode := (.block 1 v101_14)
def r101_16 : List VOper := [
 vO 18 (.bin .add (.t 8) (.c (.int .i64 1))),
 vO 8 (.mov (.t 18))]
def v101_17 : VCode := (.post [0, 1, 7, 8] (.region false r101_16))
def v101_18 : VCode := (.seq v101_15 v101_17)
def v101_19 : VCode := (.seq v101_6 v101_18)
def v101_20 : VCode := (.seq (.region false r101_3) (.keep [0, 1, 7, 8, 9] (.weak v101_19)))
def v101_21 : VCode := (.loop [0, 1, 7, 8] v101_20)
def v101_22 : VCode := (.keep [0, 1, 7, 8] (.weak v101_21))
def v101_23 : VCode := (.block 0 v101_22)
def v101_24 : VCode := (.seq (.region false r101_2) (.keep [0, 1, 7, 8] (.weak v101_23)))
def r101_25 : List VOper := [
 vO 4 (.mov (.c (.int .i64 (-1))))]
def v101_26 : VCode := (.seq (.region false r101_25) (.keep [4] (.weak .ret)))
def v101_27 : VCode := (.seq v101_24 v101_26)
def v101 : VCode := (.seq (.region false r101_1) (.keep [0, 1] (.weak v101_27)))
theorem hv101 : codeOf Tryd.prog Tryd.f101.ntmps v101 (Tryd.f101.body.getD .skip) = some v101 := by kernel_rfl
theorem ok101 {ds : List PV} {r : PV} {fl : Bool} (h : vwp Tryd.prog v101 (retQ [(4, none)] r fl) (initSt ds)) : CallOK Tryd.prog 101 ds r fl :=
  fn_ok Tryd.func101 rfl (by decide) hv101 rfl mixed h

/- slices_Contains_string_string -/
def r74_1 : List VOper := [
 vO 4 (.mov (.c (.bool false)))]
def r74_2 : List VOper := [
 vO 5 (.mov (.t 0)),
 vO 6 (.mov (.t 1)),
 vO 7 (.call 101 [(.t 5), (.t 6)]),
 vO 8 (.bin .geq (.t 7) (.c (.int .i64 0))),
 vO 4 (.mov (.t 8))]
def v74_3 : VCode := (.seq (.region false r74_2) (.keep [4] (.weak .ret)))
def v74 : VCode := (.seq (.region false r74_1) (.keep [0, 1] (.weak v74_3)))
theorem hv74 : codeOf Tryd.prog Tryd.f74.ntmps v74 (Tryd.f74.body.getD .skip) = some v74 := by kernel_rfl
theorem ok74 {ds : List PV} {r : PV} {fl : Bool} (h : vwp Tryd.prog v74 (retQ [(4, none)] r fl) (initSt ds)) : CallOK Tryd.prog 74 ds r fl :=
  fn_ok Tryd.func74 rfl (by decide) hv74 rfl mixed h

/- dial_once -/
def r73_1 : List VOper := [
 vO 4 (.mov (.c (.nilsl)))]
def r73_2 : List VOper := [
 vO 5 (.mov (.t 0)),
 vO 6 (.mov (.t 1)),
 vO 7 (.call 74 [(.t 5), (.t 6)])]
def r73_3 : List VOper := [
 vO 8 (.mov (.t 0)),
 vO 4 (.mov (.t 8))]
def v73_4 : VCode := (.seq (.region false r73_3) (.keep [4] (.weak .ret)))
def v73_5 : VCode := (.keep [0, 1] (.weak .skip))
def v73_6 : VCode := (.cond (.t 7) v73_4 v73_5)
def v73_7 : VCode := (.seq (.region false r73_2) (.keep [0, 1, 7] (.weak v73_6)))
def r73_8 : List VOper := [
 vO 9 (.mov (.t 0)),
 vO 10 (.mov (.t 1)),
 vO 11 (.buildSlice none (.str []) 1 [(0, (.t 10))]),
 vO 12 (.append none 16 (.t 9) (.t 11)),
 vO 4 (.mov (.t 12))]
def v73_9 : VCode := (.seq (.region false r73_8) (.keep [4] (.weak .ret)))
def v73_10 : VCode := (.seq v73_7 v73_9)
def v73 : VCode := (.seq (.region false r73_1) (.keep [0, 1] (.weak v73_10)))
theorem hv73 : codeOf Tryd.prog Tryd.f73.ntmps v73 (Tryd.f73.body.getD .skip) = some v73 := by kernel_rfl
theorem ok73 {ds : List PV} {r : PV} {fl : Bool} (h : vwp Tryd.prog v73 (retQ [(4, none)] r fl) (initSt ds)) : CallOK Tryd.prog 73 ds r fl :=
  fn_ok Tryd.func73 rfl (by decide) hv73 rfl mixed h

/- dial_values -/
def r43_1 : List VOper := [
 vO 4 (.mov (.c (.nilsl)))]
def r43_2 : List VOper := [
 vO 5 (.mov (.c (.nilsl)))]
def r43_3 : List VOper := [
 vO 10 (.mov (.t 0)),
 vO 11 (.lenSl (.t 10)),
 vO 12 (.mov (.c (.int .i64 0)))]
def r43_4 : List VOper := [
 vO 13 (.bin .lss (.t 12) (.t 11))]
def v43_5 : VCode := (.keep [1, 5, 10, 11, 12] (.weak .skip))
def v43_6 : VCode := (.keep [5] (.weak (.exit 0)))
def v43_7 : VCode := (.cond (.t 13) v43_5 v43_6)
def r43_8 : List VOper := [
 vO 14 (.indexAddr (some 1) (.t 10) (.t 12)),
 vO 15 (.load (some 1) (.t 14)),
 vO 7 (.alloc (some 1) (.agg [.usl (some 3) []])),
 { dst := none, op := .store (some 1) (.t 7) (.t 15) }]
def r43_9 : List VOper := [
 vO 17 (.fieldAddr 0 (.t 7)),
 vO 18 (.load none (.t 17)),
 vO 19 (.mov (.t 1)),
 vO 20 (.call 42 [(.t 18), (.t 19)]),
 vO 16 (.mov (.t 20)),
 vO 21 (.extract (.t 16) 0),
 vO 22 (.extract (.t 16) 1),
 vO 8 (.mov (.t 21)),
 vO 9 (.mov (.t 22))]
def r43_10 : List VOper := [
 vO 23 (.mov (.t 9))]
def r43_11 : List VOper := [
 vO 24 (.mov (.t 5)),
 vO 25 (.mov (.t 8)),
 vO 26 (.call 73 [(.t 24), (.t 25)]),
 vO 5 (.mov (.t 26))]
def v43_12 : VCode := (.post [1, 5, 10, 11, 12] (.region false r43_11))
def v43_13 : VCode := (.keep [1, 5, 10, 11, 12] (.weak .skip))
def v43_14 : VCode := (.cond (.t 23) v43_12 v43_13)
def v43_15 : VCode := (.seq (.region false r43_10) (.keep [1, 5, 8, 10, 11, 12, 23] (.weak v43_14)))
def v43_16 : VCode := (.seq (.region false r43_9) (.keep [1, 5, 8, 9, 10, 11, 12] (.weak v43_15)))
def v43_17 : VCode := (.seq (.region false r43_8) (.keep [1, 5, 7, 10, 11, 12] (.weak v43_16)))
def v43_18 : VCode := (.block 1 v43_17)
def r43_19 : List VOper := [
 vO 27 (.bin .add (.t 12) (.c (.int .i64 1))),
 vO 12 (.mov (.t 27))]
def v43_20 : VCode := (.post [1, 5, 10, 11, 12] (.region false r43_19))
def v43_21 : VCode := (.seq v43_18 v43_20)
def v43_22 : VCode := (.seq v43_7 v43_21)
def v43_23 : VCode := (.seq (.region false r43_4) (.keep [1, 5, 10, 11, 12, 13] (.weak v43_22)))
def v43_24 : VCode := (.loop [1, 5, 10, 11, 12] v43_23)
def v43_25 : VCode := (.keep [1, 5, 10, 11, 12] (.weak v43_24))
def v43_26 : VCode := (.block 0 v43_25)
def v43_27 : VCode := (.seq (.region false r43_3) (.keep [1, 5, 10, 11, 12] (.weak v43_26)))
def r43_28 : List VOper := [
 vO 28 (.mov (.t 5)),
 vO 4 (.mov (.t 28))]
def v43_29 : VCode := (.seq (.region false r43_28) (.keep [4] (.weak .ret)))
def v43_30 : VCode := (.seq v43_27 v43_29)
def v43_31 : VCode := (.seq (.region false r43_2) (.keep [0, 1, 5] (.weak v43_30)))
def v43 : VCode := (.seq (.region false r43_1) (.keep [0, 1] (.weak v43_31)))
theorem hv43 : codeOf Tryd.prog Tryd.f43.ntmps v43 (Tryd.f43.body.getD .skip) = some v43 := by kernel_rfl
theorem ok43 {ds : List PV} {r : PV} {fl : Bool} (h : vwp Tryd.prog v43 (retQ [(4, none)] r fl) (initSt ds)) : CallOK Tryd.prog 43 ds r fl :=
  fn_ok Tryd.func43 rfl (by decide) hv43 rfl mixed h

/- dial_networks -/
def r46_1 : List VOper := [
 vO 4 (.mov (.c (.nilsl)))]
def r46_2 : List VOper := [
 vO 5 (.mov (.c (.nilsl)))]
def r46_3 : List VOper := [
 vO 8 (.mov (.t 0)),
 vO 9 (.call 43 [(.t 8), (.c (.str [110, 101, 116]))]),
 vO 10 (.lenSl (.t 9)),
 vO 11 (.mov (.c (.int .i64 0)))]
def r46_4 : List VOper := [
 vO 12 (.bin .lss (.t 11) (.t 10))]
def v46_5 : VCode := (.keep [1, 5, 9, 10, 11] (.weak .skip))
def v46_6 : VCode := (.keep [5] (.weak (.exit 0)))
def v46_7 : VCode := (.cond (.t 12) v46_5 v46_6)
def r46_8 : List VOper := [
 vO 13 (.indexAddr none (.t 9) (.t 11)),
 vO 14 (.load none (.t 13)),
 vO 7 (.mov (.t 14))]
def r46_9 : List VOper := [
 vO 15 (.mov (.t 7)),
 vO 16 (.call 64 [(.t 15)]),
 vO 17 (.mov (.t 16)),
 vG 18 17 true (.mov (.t 7)),
 vG 19 17 true (.bin .neq (.t 18) (.c (.str [110, 101, 116]))),
 vO 20 (.pick (.t 17) (.t 19) (.c (.bool false))),
 vO 21 (.mov (.t 20)),
 vG 22 21 true (.mov (.t 1)),
 vG 23 21 true (.bin .eql (.t 22) (.c (.str [110, 101, 116]))),
 vG 24 21 true (.mov (.t 23)),
 vG 25 24 false (.mov (.t 1)),
 vG 26 24 false (.mov (.t 7)),
 vG 27 24 false (.bin .eql (.t 25) (.t 26)),
 vG 28 21 true (.pick (.t 24) (.c (.bool true)) (.t 27)),
 vO 29 (.pick (.t 21) (.t 28) (.c (.bool false)))]
def r46_10 : List VOper := [
 vO 30 (.mov (.t 5)),
 vO 31 (.mov (.t 7)),
 vO 32 (.buildSlice none (.str []) 1 [(0, (.t 31))]),
 vO 33 (.append none 16 (.t 30) (.t 32)),
 vO 5 (.mov (.t 33))]
def v46_11 : VCode := (.post [1, 5, 9, 10, 11] (.region false r46_10))
def v46_12 : VCode := (.keep [1, 5, 9, 10, 11] (.weak .skip))
def v46_13 : VCode := (.cond (.t 29) v46_11 v46_12)
def v46_14 : VCode := (.seq (.region false r46_9) (.keep [1, 5, 7, 9, 10, 11, 29] (.weak v46_13)))
def v46_15 : VCode := (.seq (.region false r46_8) (.keep [1, 5, 7, 9, 10, 11] (.weak v46_14)))
def v46_16 : VCode := (.block 1 v46_15)
def r46_17 : List VOper := [
 vO 34 (.bin .add (.t 11) (.c (.int .i64 1))),
 vO 11 (.mov (.t 34))]
def v46_18 : VCode := (.post [1, 5, 9, 10, 11] (.region false r46_17))
def v46_19 : VCode := (.seq v46_16 v46_18)
def v46_20 : VCode := (.seq v46_7 v46_19)
def v46_21 : VCode := (.seq (.region false r46_4) (.keep [1, 5, 9, 10, 11, 12] (.weak v46_20)))
def v46_22 : VCode := (.loop [1, 5, 9, 10, 11] v46_21)
def v46_23 : VCode := (.keep [1, 5, 9, 10, 11] (.weak v46_22))
def v46_24 : VCode := (.block 0 v46_23)
def v46_25 : VCode := (.seq (.region false r46_3) (.keep [1, 5, 9, 10, 11] (.weak v46_24)))
def r46_26 : List VOper := [
 vO 35 (.mov (.t 5)),
 vO 4 (.mov (.t 35))]
def v46_27 : VCode := (.seq (.region false r46_26) (.keep [4] (.weak .ret)))
def v46_28 : VCode := (.seq v46_25 v46_27)
def v46_29 : VCode := (.seq (.region false r46_2) (.keep [0, 1, 5] (.weak v46_28)))
def v46 : VCode := (.seq (.region false r46_1) (.keep [0, 1] (.weak v46_29)))
theorem hv46 : codeOf Tryd.prog Tryd.f46.ntmps v46 (Tryd.f46.body.getD .skip) = some v46 := by kernel_rfl
theorem ok46 {ds : List PV} {r : PV} {fl : Bool} (h : vwp Tryd.prog v46 (retQ [(4, none)] r fl) (initSt ds)) : CallOK Tryd.prog 46 ds r fl :=
  fn_ok Tryd.func46 rfl (by decide) hv46 rfl mixed h

/- dial_Query -/
def r20_1 : List VOper := [
 vO 8 (.mov (.c (.nilsl)))]
def r20_2 : List VOper := [
 vO 9 (.mov (.c (.nilsl)))]
def r20_3 : List VOper := [
 vO 14 (.mov (.t 0)),
 vO 15 (.lenSl (.t 14)),
 vO 16 (.mov (.c (.int .i64 0)))]
def r20_4 : List VOper := [
 vO 17 (.bin .lss (.t 16) (.t 15))]
def v20_5 : VCode := (.keep [1, 2, 3, 9, 14, 15, 16] (.weak .skip))
def v20_6 : VCode := (.keep [3, 9] (.weak (.exit 0)))
def v20_7 : VCode := (.cond (.t 17) v20_5 v20_6)
def r20_8 : List VOper := [
 vO 18 (.indexAddr (some 1) (.t 14) (.t 16)),
 vO 19 (.load (some 1) (.t 18)),
 vO 11 (.alloc (some 1) (.agg [.usl (some 3) []])),
 { dst := none, op := .store (some 1) (.t 11) (.t 19) }]
def r20_9 : List VOper := [
 vO 21 (.fieldAddr 0 (.t 11)),
 vO 22 (.load none (.t 21)),
 vO 23 (.mov (.t 1)),
 vO 24 (.call 42 [(.t 22), (.t 23)]),
 vO 20 (.mov (.t 24)),
 vO 25 (.extract (.t 20) 0),
 vO 26 (.extract (.t 20) 1),
 vO 12 (.mov (.t 25)),
 vO 13 (.mov (.t 26))]
def r20_10 : List VOper := [
 vO 27 (.mov (.t 13)),
 vO 28 (.mov (.t 27)),
 vG 29 28 true (.mov (.t 12)),
 vG 30 28 true (.mov (.t 2)),
 vG 31 28 true (.bin .eql (.t 29) (.t 30)),
 vO 32 (.pick (.t 28) (.t 31) (.c (.bool false)))]
def r20_11 : List VOper := [
 vO 33 (.mov (.t 9)),
 vO 34 (.load (some 1) (.t 11)),
 vO 35 (.buildSlice (some 1) (.agg [.usl (some 3) []]) 1 [(0, (.t 34))]),
 vO 36 (.append (some 1) 24 (.t 33) (.t 35)),
 vO 9 (.mov (.t 36))]
def v20_12 : VCode := (.post [1, 2, 3, 9, 14, 15, 16] (.region false r20_11))
def v20_13 : VCode := (.keep [1, 2, 3, 9, 14, 15, 16] (.weak .skip))
def v20_14 : VCode := (.cond (.t 32) v20_12 v20_13)
def v20_15 : VCode := (.seq (.region false r20_10) (.keep [1, 2, 3, 9, 11, 14, 15, 16, 32] (.weak v20_14)))
def v20_16 : VCode := (.seq (.region false r20_9) (.keep [1, 2, 3, 9, 11, 12, 13, 14, 15, 16] (.weak v20_15)))
def v20_17 : VCode := (.seq (.region false r20_8) (.keep [1, 2, 3, 9, 11, 14, 15, 16] (.weak v20_16)))
def v20_18 : VCode := (.block 1 v20_17)
def r20_19 : List VOper := [
 vO 37 (.bin .add (.t 16) (.c (.int .i64 1))),
 vO 16 (.mov (.t 37))]
def v20_20 : VCode := (.post [1, 2, 3, 9, 14, 15, 16] (.region false r20_19))
def v20_21 : VCode := (.seq v20_18 v20_20)
def v20_22 : VCode := (.seq v20_7 v20_21)
def v20_23 : VCode := (.seq (.region false r20_4) (.keep [1, 2, 3, 9, 14, 15, 16, 17] (.weak v20_22)))
def v20_24 : VCode := (.loop [1, 2, 3, 9, 14, 15, 16] v20_23)
def v20_25 : VCode := (.keep [1, 2, 3, 9, 14, 15, 16] (.weak v20_24))
def v20_26 : VCode := (.block 0 v20_25)
def v20_27 : VCode := (.seq (.region false r20_3) (.keep [1, 2, 3, 9, 14, 15, 16] (.weak v20_26)))
def r20_28 : List VOper := [
 vO 38 (.mov (.t 9)),
 vO 39 (.mov (.t 3)),
 vO 40 (.call 43 [(.t 38), (.t 39)]),
 vO 8 (.mov (.t 40))]
def v20_29 : VCode := (.seq (.region false r20_28) (.keep [8] (.weak .ret)))
def v20_30 : VCode := (.seq v20_27 v20_29)
def v20_31 : VCode := (.seq (.region false r20_2) (.keep [0, 1, 2, 3, 9] (.weak v20_30)))
def v20 : VCode := (.seq (.region false r20_1) (.keep [0, 1, 2, 3] (.weak v20_31)))
theorem hv20 : codeOf Tryd.prog Tryd.f20.ntmps v20 (Tryd.f20.body.getD .skip) = some v20 := by kernel_rfl
theorem ok20 {ds : List PV} {r : PV} {fl : Bool} (h : vwp Tryd.prog v20 (retQ [(8, none)] r fl) (initSt ds)) : CallOK Tryd.prog 20 ds r fl :=
  fn_ok Tryd.func20 rfl (by decide) hv20 rfl mixed h

/- dial_hosts_1 -/
def r76_1 : List VOper := [
 vO 2 (.mov (.c (.bool false)))]
def r76_2 : List VOper := [
 vO 3 (.mov (.t 0)),
 vO 4 (.call 65 [(.t 3)]),
 vO 5 (.not (.t 4)),
 vO 2 (.mov (.t 5))]
def v76_3 : VCode := (.seq (.region false r76_2) (.keep [2] (.weak .ret)))
def v76 : VCode := (.seq (.region false r76_1) (.keep [0] (.weak v76_3)))
theorem hv76 : codeOf Tryd.prog Tryd.f76.ntmps v76 (Tryd.f76.body.getD .skip) = some v76 := by kernel_rfl
theorem ok76 {ds : List PV} {r : PV} {fl : Bool} (h : vwp Tryd.prog v76 (retQ [(2, none)] r fl) (initSt ds)) : CallOK Tryd.prog 76 ds r fl :=
  fn_ok Tryd.func76 rfl (by decide) hv76 rfl mixed h

/- slices_IndexFunc_string_string_f76 -/
def r102_1 : List VOper := [
 vO 4 (.mov (.c (.int .i64 0)))]
def r102_2 : List VOper := [
 vO 6 (.mov (.t 0)),
 vO 7 (.lenSl (.t 6)),
 vO 8 (.mov (.c (.int .i64 0)))]
def r102_3 : List VOper := [
 vO 9 (.bin .lss (.t 8) (.t 7))]
def v102_4 : VCode := (.keep [0, 1, 7, 8] (.weak .skip))
def v102_5 : VCode := (.keep [] (.weak (.exit 0)))
def v102_6 : VCode := (.cond (.t 9) v102_4 v102_5)
def r102_7 : List VOper := [
 vO 10 (.mov (.t 8)),
 vO 5 (.mov (.t 10))]
def r102_8 : List VOper := [
 vO 11 (.mov (.t 1)),
 vO 12 (.mov (.t 0)),
 vO 13 (.mov (.t 5)),
 vO 14 (.indexAddr none (.t 12) (.t 13)),
 vO 15 (.load none (.t 14)),
 vO 16 (.callv (.t 11) [(.t 15)])]
def r102_9 : List VOper := [
 vO 17 (.mov (.t 5)),
 vO 4 (.mov (.t 17))]
def v102_10 : VCode := (.seq (.region false r102_9) (.keep [4] (.weak .ret)))
def v102_11 : VCode := (.keep [0, 1, 7, 8] (.weak .skip))
def v102_12 : VCode := (.cond (.t 16) v102_10 v102_11)
def v102_13 : VCode := (.seq (.region false r102_8) (.keep [0, 1, 5, 7, 8, 16] (.weak v102_12)))
def v102_14 : VCode := (.seq (.region false r102_7) (.keep [0, 1, 5, 7, 8] (.weak v102_13)))
def v102_15 : VCode := (.block 1 v102_14)
def r102_16 : List VOper := [
 vO 18 (.bin .add (.t 8) (.c (.int .i64 1))),
 vO 8 (.mov (.t 18))]
def v102_17 : VCode := (.post [0, 1, 7, 8] (.region false r102_16))
def v102_18 : VCode := (.seq v102_15 v102_17)
def v102_19 : VCode := (.seq v102_6 v102_18)
def v102_20 : VCode := (.seq (.region false r102_3) (.keep [0, 1, 7, 8, 9] (.weak v102_19)))
def v102_21 : VCode := (.loop [0, 1, 7, 8] v102_20)
def v102_22 : VCode := (.keep [0, 1, 7, 8] (.weak v102_21))
def v102_23 : VCode := (.block 0 v102_22)
def v102_24 : VCode := (.seq (.region false r102_2) (.keep [0, 1, 7, 8] (.weak v102_23)))
def r102_25 : List VOper := [
 vO 4 (.mov (.c (.int .i64 (-1))))]
def v102_26 : VCode := (.seq (.region false r102_25) (.keep [4] (.weak .ret)))
def v102_27 : VCode := (.seq v102_24 v102_26)
def v102 : VCode := (.seq (.region false r102_1) (.keep [0, 1] (.weak v102_27)))
theorem hv102 : codeOf Tryd.prog Tryd.f102.ntmps v102 (Tryd.f102.body.getD .skip) = some v102 := by kernel_rfl
theorem ok102 {ds : List PV} {r : PV} {fl : Bool} (h : vwp Tryd.prog v102 (retQ [(4, none)] r fl) (initSt ds)) : CallOK Tryd.prog 102 ds r fl :=
  fn_ok Tryd.func102 rfl (by decide) hv102 rfl mixed h

/- slices_DeleteFunc_string_string_f76 -/
def r75_1 : List VOper := [
 vO 4 (.mov (.c (.nilsl)))]
def r75_2 : List VOper := [
 vO 8 (.mov (.t 0)),
 vO 9 (.mov (.t 1)),
 vO 10 (.call 102 [(.t 8), (.t 9)]),
 vO 5 (.mov (.t 10))]
def r75_3 : List VOper := [
 vO 11 (.mov (.t 5)),
 vO 12 (.bin .eql (.t 11) (.c (.int .i64 (-1))))]
def r75_4 : List VOper := [
 vO 13 (.mov (.t 0)),
 vO 4 (.mov (.t 13))]
def v75_5 : VCode := (.seq (.region false r75_4) (.keep [4] (.weak .ret)))
def v75_6 : VCode := (.keep [0, 1, 5] (.weak .skip))
def v75_7 : VCode := (.cond (.t 12) v75_5 v75_6)
def v75_8 : VCode := (.seq (.region false r75_3) (.keep [0, 1, 5, 12] (.weak v75_7)))
def r75_9 : List VOper := [
 vO 14 (.mov (.t 5)),
 vO 15 (.bin .add (.t 14) (.c (.int .i64 1))),
 vO 6 (.mov (.t 15))]
def r75_10 : List VOper := [
 vO 16 (.mov (.t 6)),
 vO 17 (.mov (.t 0)),
 vO 18 (.lenSl (.t 17)),
 vO 19 (.bin .lss (.t 16) (.t 18))]
def v75_11 : VCode := (.keep [0, 1, 5, 6] (.weak .skip))
def v75_12 : VCode := (.keep [0, 5] (.weak (.exit 0)))
def v75_13 : VCode := (.cond (.t 19) v75_11 v75_12)
def v75_14 : VCode := (.seq (.region false r75_10) (.keep [0, 1, 5, 6, 19] (.weak v75_13)))
def r75_15 : List VOper := [
 vO 22 (.mov (.t 0)),
 vO 23 (.mov (.t 6)),
 vO 24 (.indexAddr none (.t 22) (.t 23)),
 vO 25 (.load none (.t 24)),
 vO 7 (.mov (.t 25))]
def r75_16 : List VOper := [
 vO 26 (.mov (.t 1)),
 vO 27 (.mov (.t 7)),
 vO 28 (.callv (.t 26) [(.t 27)]),
 vO 29 (.not (.t 28))]
def r75_17 : List VOper := [
 vO 30 (.mov (.t 0)),
 vO 31 (.mov (.t 5)),
 vO 32 (.mov (.t 7)),
 vO 33 (.indexAddr none (.t 30) (.t 31)),
 { dst := none, op := .store none (.t 33) (.t 32) }]
def r75_18 : List VOper := [
 vO 34 (.mov (.t 5)),
 vO 35 (.bin .add (.t 34) (.c (.int .i64 1))),
 vO 5 (.mov (.t 35))]
def v75_19 : VCode := (.post [0, 1, 5, 6] (.region false r75_18))
def v75_20 : VCode := (.seq (.region false r75_17) (.keep [0, 1, 5, 6] (.weak v75_19)))
def v75_21 : VCode := (.keep [0, 1, 5, 6] (.weak .skip))
def v75_22 : VCode := (.cond (.t 29) v75_20 v75_21)
def v75_23 : VCode := (.seq (.region false r75_16) (.keep [0, 1, 5, 6, 7, 29] (.weak v75_22)))
def v75_24 : VCode := (.seq (.region false r75_15) (.keep [0, 1, 5, 6, 7] (.weak v75_23)))
def v75_25 : VCode := (.block 1 v75_24)
def r75_26 : List VOper := [
 vO 20 (.mov (.t 6)),
 vO 21 (.bin .add (.t 20) (.c (.int .i64 1))),
 vO 6 (.mov (.t 21))]
def v75_27 : VCode := (.post [0, 1, 5, 6] (.region false r75_26))
def v75_28 : VCode := (.seq v75_25 v75_27)
def v75_29 : VCode := (.seq v75_14 v75_28)
def v75_30 : VCode := (.loop [0, 1, 5, 6] v75_29)
def v75_31 : VCode := (.keep [0, 1, 5, 6] (.weak v75_30))
def v75_32 : VCode := (.block 0 v75_31)
def v75_33 : VCode := (.seq (.region false r75_9) (.keep [0, 1, 5, 6] (.weak v75_32)))
def r75_34 : List VOper := [
 vO 36 (.mov (.t 0)),
 vO 37 (.mov (.t 5)),
 vO 38 (.slSl none (.t 36) (some (.t 37)) none),
 { dst := none, op := .clear none (.t 38) }]
def r75_35 : List VOper := [
 vO 39 (.mov (.t 0)),
 vO 40 (.mov (.t 5)),
 vO 41 (.slSl none (.t 39) none (some (.t 40))),
 vO 4 (.mov (.t 41))]
def v75_36 : VCode := (.seq (.region false r75_35) (.keep [4] (.weak .ret)))
def v75_37 : VCode := (.seq (.region false r75_34) (.keep [0, 5] (.weak v75_36)))
def v75_38 : VCode := (.seq v75_33 v75_37)
def v75_39 : VCode := (.seq v75_8 v75_38)
def v75_40 : VCode := (.seq (.region false r75_2) (.keep [0, 1, 5] (.weak v75_39)))
def v75 : VCode := (.seq (.region false r75_1) (.keep [0, 1] (.weak v75_40)))
theorem hv75 : codeOf Tryd.prog Tryd.f75.ntmps v75 (Tryd.f75.body.getD .skip) = some v75 := by kernel_rfl
theorem ok75 {ds : List PV} {r : PV} {fl : Bool} (h : vwp Tryd.prog v75 (retQ [(4, none)] r fl) (initSt ds)) : CallOK Tryd.prog 75 ds r fl :=
  fn_ok Tryd.func75 rfl (by decide) hv75 rfl mixed h

/- dial_hosts -/
def r47_1 : List VOper := [
 vO 6 (.mov (.c (.nilsl)))]
def r47_2 : List VOper := [
 vO 8 (.mov (.t 2)),
 vO 9 (.bin .eql (.t 8) (.c (.str [42]))),
 vO 7 (.mov (.t 9))]
def r47_3 : List VOper := [
 vO 10 (.mov (.t 2)),
 vO 11 (.buildSlice none (.str []) 1 [(0, (.t 10))]),
 vO 6 (.mov (.t 11))]
def v47_4 : VCode := (.seq (.region false r47_3) (.keep [6] (.weak .ret)))
def r47_5 : List VOper := [
 vO 13 (.mov (.t 2)),
 vO 14 (.bin .eql (.t 13) (.c (.str [115, 101, 108, 102]))),
 vO 15 (.mov (.t 14)),
 vG 16 15 true (.mov (.t 1)),
 vG 17 15 true (.call 65 [(.t 16)]),
 vO 18 (.pick (.t 15) (.t 17) (.c (.bool false))),
 vO 12 (.mov (.t 18))]
def r47_6 : List VOper := [
 vO 19 (.mov (.t 1)),
 vO 20 (.buildSlice none (.str []) 1 [(0, (.t 19))]),
 vO 6 (.mov (.t 20))]
def v47_7 : VCode := (.seq (.region false r47_6) (.keep [6] (.weak .ret)))
def r47_8 : List VOper := [
 vO 22 (.mov (.t 2)),
 vO 23 (.bin .eql (.t 22) (.c (.str [115, 101, 108, 102]))),
 vO 21 (.mov (.t 23))]
def r47_9 : List VOper := [
 vO 6 (.mov (.c (.nilsl)))]
def v47_10 : VCode := (.seq (.region false r47_9) (.keep [6] (.weak .ret)))
def r47_11 : List VOper := [
 vO 25 (.mov (.t 0)),
 vO 26 (.call 43 [(.t 25), (.c (.str [104, 111, 115, 116]))]),
 vO 27 (.mov (.t 2)),
 vO 28 (.call 74 [(.t 26), (.t 27)]),
 vO 24 (.mov (.t 28))]
def r47_12 : List VOper := [
 vO 29 (.mov (.t 2)),
 vO 30 (.buildSlice none (.str []) 1 [(0, (.t 29))]),
 vO 6 (.mov (.t 30))]
def v47_13 : VCode := (.seq (.region false r47_12) (.keep [6] (.weak .ret)))
def v47_14 : VCode := (.keep [0, 2] (.weak .skip))
def v47_15 : VCode := (.cond (.t 24) v47_13 v47_14)
def v47_16 : VCode := (.seq (.region false r47_11) (.keep [0, 2, 24] (.weak v47_15)))
def v47_17 : VCode := (.cond (.t 21) v47_10 v47_16)
def v47_18 : VCode := (.seq (.region false r47_8) (.keep [0, 2, 21] (.weak v47_17)))
def v47_19 : VCode := (.cond (.t 12) v47_7 v47_18)
def v47_20 : VCode := (.seq (.region false r47_5) (.keep [0, 1, 2, 12] (.weak v47_19)))
def v47_21 : VCode := (.cond (.t 7) v47_4 v47_20)
def v47_22 : VCode := (.seq (.region false r47_2) (.keep [0, 1, 2, 7] (.weak v47_21)))
def v47_23 : VCode := (.block 0 v47_22)
def r47_24 : List VOper := [
 vO 31 (.mov (.t 0)),
 vO 32 (.mov (.t 2)),
 vO 33 (.call 20 [(.t 31), (.c (.str [97, 108, 105, 97, 115])), (.t 32), (.c (.str [104, 111, 115, 116]))]),
 vO 34 (.call 75 [(.t 33), (.c (.fn 76 []))]),
 vO 6 (.mov (.t 34))]
def v47_25 : VCode := (.seq (.region false r47_24) (.keep [6] (.weak .ret)))
def v47_26 : VCode := (.seq v47_23 v47_25)
def v47 : VCode := (.seq (.region false r47_1) (.keep [0, 1, 2] (.weak v47_26)))
theorem hv47 : codeOf Tryd.prog Tryd.f47.ntmps v47 (Tryd.f47.body.getD .skip) = some v47 := by kernel_rfl
theorem ok47 {ds : List PV} {r : PV} {fl : Bool} (h : vwp Tryd.prog v47 (retQ [(6, none)] r fl) (initSt ds)) : CallOK Tryd.prog 47 ds r fl :=
  fn_ok Tryd.func47 rfl (by decide) hv47 rfl mixed h

/- num_known -/
def r120_1 : List VOper := [
 vO 2 (.mov (.c (.bool false)))]
def r120_2 : List VOper := [
 vO 3 (.mov (.t 0)),
 vO 4 (.bin .eql (.t 3) (.c (.int .i64 8))),
 vO 5 (.mov (.t 4)),
 vG 6 5 false (.mov (.t 0)),
 vG 7 5 false (.bin .eql (.t 6) (.c (.int .i64 10))),
 vO 8 (.pick (.t 5) (.c (.bool true)) (.t 7)),
 vO 9 (.mov (.t 8)),
 vG 10 9 false (.mov (.t 0)),
 vG 11 9 false (.bin .eql (.t 10) (.c (.int .i64 16))),
 vO 12 (.pick (.t 9) (.c (.bool true)) (.t 11)),
 vO 2 (.mov (.t 12))]
def v120_3 : VCode := (.seq (.region false r120_2) (.keep [2] (.weak .ret)))
def v120 : VCode := (.seq (.region false r120_1) (.keep [0] (.weak v120_3)))
theorem hv120 : codeOf Tryd.prog Tryd.f120.ntmps v120 (Tryd.f120.body.getD .skip) = some v120 := by kernel_rfl
theorem ok120 {ds : List PV} {r : PV} {fl : Bool} (h : vwp Tryd.prog v120 (retQ [(2, none)] r fl) (initSt ds)) : CallOK Tryd.prog 120 ds r fl :=
  fn_ok Tryd.func120 rfl (by decide) hv120 rfl mixed h

/- num_digit -/
def r121_1 : List VOper := [
 vO 2 (.mov (.c (.int .i64 0)))]
def r121_2 : List VOper := [
 vO 4 (.mov (.t 0)),
 vO 5 (.bin .geq (.t 4) (.c (.int .u8 48))),
 vO 6 (.mov (.t 5)),
 vG 7 6 true (.mov (.t 0)),
 vG 8 6 true (.bin .leq (.t 7) (.c (.int .u8 57))),
 vO 9 (.pick (.t 6) (.t 8) (.c (.bool false))),
 vO 3 (.mov (.t 9))]
def r121_3 : List VOper := [
 vO 10 (.mov (.t 0)),
 vO 11 (.bin .sub (.t 10) (.c (.int .u8 48))),
 vO 12 (.conv .i64 (.t 11)),
 vO 2 (.mov (.t 12))]
def v121_4 : VCode := (.seq (.region false r121_3) (.keep [2] (.weak .ret)))
def r121_5 : List VOper := [
 vO 14 (.mov (.t 0)),
 vO 15 (.bin .geq (.t 14) (.c (.int .u8 97))),
 vO 16 (.mov (.t 15)),
 vG 17 16 true (.mov (.t 0)),
 vG 18 16 true (.bin .leq (.t 17) (.c (.int .u8 102))),
 vO 19 (.pick (.t 16) (.t 18) (.c (.bool false))),
 vO 13 (.mov (.t 19))]
def r121_6 : List VOper := [
 vO 20 (.mov (.t 0)),
 vO 21 (.bin .sub (.t 20) (.c (.int .u8 97))),
 vO 22 (.conv .i64 (.t 21)),
 vO 23 (.bin .add (.t 22) (.c (.int .i64 10))),
 vO 2 (.mov (.t 23))]
def v121_7 : VCode := (.seq (.region false r121_6) (.keep [2] (.weak .ret)))
def v121_8 : VCode := (.keep [] (.weak .skip))
def v121_9 : VCode := (.cond (.t 13) v121_7 v121_8)
def v121_10 : VCode := (.seq (.region false r121_5) (.keep [0, 13] (.weak v121_9)))
def v121_11 : VCode := (.cond (.t 3) v121_4 v121_10)
def v121_12 : VCode := (.seq (.region false r121_2) (.keep [0, 3] (.weak v121_11)))
def v121_13 : VCode := (.block 0 v121_12)
def r121_14 : List VOper := [
 vO 2 (.mov (.c (.int .i64 16)))]
def v121_15 : VCode := (.seq (.region false r121_14) (.keep [2] (.weak .ret)))
def v121_16 : VCode := (.seq v121_13 v121_15)
def v121 : VCode := (.seq (.region false r121_1) (.keep [0] (.weak v121_16)))
theorem hv121 : codeOf Tryd.prog Tryd.f121.ntmps v121 (Tryd.f121.body.getD .skip) = some v121 := by kernel_rfl
theorem ok121 {ds : List PV} {r : PV} {fl : Bool} (h : vwp Tryd.prog v121 (retQ [(2, none)] r fl) (initSt ds)) : CallOK Tryd.prog 121 ds r fl :=
  fn_ok Tryd.func121 rfl (by decide) hv121 rfl mixed h

/- num_Parse -/
def r103_1 : List VOper := [
 vO 6 (.mov (.c (.int .i64 0))),
 vO 7 (.mov (.c (.int .i64 0)))]
def r103_2 : List VOper := [
 vO 11 (.mov (.t 1)),
 vO 12 (.call 120 [(.t 11)]),
 vO 13 (.not (.t 12)),
 vO 14 (.mov (.t 13)),
 vG 15 14 false (.mov (.t 2)),
 vG 16 14 false (.bin .lss (.t 15) (.c (.int .i64 0))),
 vO 17 (.pick (.t 14) (.c (.bool true)) (.t 16))]
def r103_3 : List VOper := [
 vO 6 (.mov (.c (.int .i64 0))),
 vO 7 (.mov (.c (.int .i64 1)))]
def v103_4 : VCode := (.seq (.region false r103_3) (.keep [6, 7] (.weak .ret)))
def v103_5 : VCode := (.keep [0, 1, 2] (.weak .skip))
def v103_6 : VCode := (.cond (.t 17) v103_4 v103_5)
def v103_7 : VCode := (.seq (.region false r103_2) (.keep [0, 1, 2, 17] (.weak v103_6)))
def r103_8 : List VOper := [
 vO 18 (.mov (.t 0)),
 vO 19 (.bin .eql (.t 18) (.c (.str []))),
 vO 20 (.mov (.t 19)),
 vG 21 20 false (.mov (.t 0)),
 vG 22 20 false (.lenStr (.t 21)),
 vG 23 20 false (.bin .gtr (.t 22) (.c (.int .i64 1))),
 vG 24 20 false (.mov (.t 23)),
 vG 25 24 true (.mov (.t 0)),
 vG 26 24 true (.indexStr (.t 25) (.c (.int .i64 0))),
 vG 27 24 true (.bin .eql (.t 26) (.c (.int .u8 48))),
 vG 28 20 false (.pick (.t 24) (.t 27) (.c (.bool false))),
 vO 29 (.pick (.t 20) (.c (.bool true)) (.t 28))]
def r103_9 : List VOper := [
 vO 6 (.mov (.c (.int .i64 0))),
 vO 7 (.mov (.c (.int .i64 5)))]
def v103_10 : VCode := (.seq (.region false r103_9) (.keep [6, 7] (.weak .ret)))
def v103_11 : VCode := (.keep [0, 1, 2] (.weak .skip))
def v103_12 : VCode := (.cond (.t 29) v103_10 v103_11)
def v103_13 : VCode := (.seq (.region false r103_8) (.keep [0, 1, 2, 29] (.weak v103_12)))
def r103_14 : List VOper := [
 vO 8 (.mov (.c (.int .i64 0)))]
def r103_15 : List VOper := [
 vO 30 (.mov (.t 0)),
 vO 31 (.lenStr (.t 30)),
 vO 32 (.mov (.c (.int .i64 0)))]
def r103_16 : List VOper := [
 vO 33 (.bin .lss (.t 32) (.t 31))]
def v103_17 : VCode := (.keep [0, 1, 2, 8, 31, 32] (.weak .skip))
def v103_18 : VCode := (.keep [8] (.weak (.exit 0)))
def v103_19 : VCode := (.cond (.t 33) v103_17 v103_18)
def r103_20 : List VOper := [
 vO 34 (.mov (.t 32)),
 vO 9 (.mov (.t 34))]
def r103_21 : List VOper := [
 vO 35 (.mov (.t 0)),
 vO 36 (.mov (.t 9)),
 vO 37 (.indexStr (.t 35) (.t 36)),
 vO 38 (.call 121 [(.t 37)]),
 vO 10 (.mov (.t 38))]
def r103_22 : List VOper := [
 vO 39 (.mov (.t 10)),
 vO 40 (.mov (.t 1)),
 vO 41 (.bin .geq (.t 39) (.t 40)),
 vO 42 (.mov (.t 41)),
 vG 43 42 false (.mov (.t 8)),
 vG 44 42 false (.mov (.t 2)),
 vG 45 42 false (.mov (.t 10)),
 vG 46 42 false (.bin .sub (.t 44) (.t 45)),
 vG 47 42 false (.mov (.t 1)),
 vG 48 42 false (.bin .quo (.t 46) (.t 47)),
 vG 49 42 false (.bin .gtr (.t 43) (.t 48)),
 vO 50 (.pick (.t 42) (.c (.bool true)) (.t 49)),
 vO 51 (.mov (.t 50)),
 vG 52 51 false (.mov (.t 10)),
 vG 53 51 false (.mov (.t 2)),
 vG 54 51 false (.bin .gtr (.t 52) (.t 53)),
 vO 55 (.pick (.t 51) (.c (.bool true)) (.t 54))]
def r103_23 : List VOper := [
 vO 6 (.mov (.c (.int .i64 0))),
 vO 7 (.mov (.c (.int .i64 5)))]
def v103_24 : VCode := (.seq (.region false r103_23) (.keep [6, 7] (.weak .ret)))
def v103_25 : VCode := (.keep [0, 1, 2, 8, 10, 31, 32] (.weak .skip))
def v103_26 : VCode := (.cond (.t 55) v103_24 v103_25)
def v103_27 : VCode := (.seq (.region false r103_22) (.keep [0, 1, 2, 8, 10, 31, 32, 55] (.weak v103_26)))
def r103_28 : List VOper := [
 vO 56 (.mov (.t 8)),
 vO 57 (.mov (.t 1)),
 vO 58 (.bin .mul (.t 56) (.t 57)),
 vO 59 (.mov (.t 10)),
 vO 60 (.bin .add (.t 58) (.t 59)),
 vO 8 (.mov (.t 60))]
def v103_29 : VCode := (.post [0, 1, 2, 8, 31, 32] (.region false r103_28))
def v103_30 : VCode := (.seq v103_27 v103_29)
def v103_31 : VCode := (.seq (.region false r103_21) (.keep [0, 1, 2, 8, 10, 31, 32] (.weak v103_30)))
def v103_32 : VCode := (.seq (.region false r103_20) (.keep [0, 1, 2, 8, 9, 31, 32] (.weak v103_31)))
def v103_33 : VCode := (.block 1 v103_32)
def r103_34 : List VOper := [
 vO 61 (.bin .add (.t 32) (.c (.int .i64 1))),
 vO 32 (.mov (.t 61))]
def v103_35 : VCode := (.post [0, 1, 2, 8, 31, 32] (.region false r103_34))
def v103_36 : VCode := (.seq v103_33 v103_35)
def v103_37 : VCode := (.seq v103_19 v103_36)
def v103_38 : VCode := (.seq (.region false r103_16) (.keep [0, 1, 2, 8, 31, 32, 33] (.weak v103_37)))
def v103_39 : VCode := (.loop [0, 1, 2, 8, 31, 32] v103_38)
def v103_40 : VCode := (.keep [0, 1, 2, 8, 31, 32] (.weak v103_39))
def v103_41 : VCode := (.block 0 v103_40)
def v103_42 : VCode := (.seq (.region false r103_15) (.keep [0, 1, 2, 8, 31, 32] (.weak v103_41)))
def r103_43 : List VOper := [
 vO 62 (.mov (.t 8)),
 vO 6 (.mov (.t 62)),
 vO 7 (.mov (.c (.int .i64 0)))]
def v103_44 : VCode := (.seq (.region false r103_43) (.keep [6, 7] (.weak .ret)))
def v103_45 : VCode := (.seq v103_42 v103_44)
def v103_46 : VCode := (.seq (.region false r103_14) (.keep [0, 1, 2, 8] (.weak v103_45)))
def v103_47 : VCode := (.seq v103_13 v103_46)
def v103_48 : VCode := (.seq v103_7 v103_47)
def v103 : VCode := (.seq (.region false r103_1) (.keep [0, 1, 2] (.weak v103_48)))
theorem hv103 : codeOf Tryd.prog Tryd.f103.ntmps v103 (Tryd.f103.body.getD .skip) = some v103 := by kernel_rfl
theorem ok103 {ds : List PV} {r : PV} {fl : Bool} (h : vwp Tryd.prog v103 (retQ [(6, none), (7, none)] r fl) (initSt ds)) : CallOK Tryd.prog 103 ds r fl :=
  fn_ok Tryd.func103 rfl (by decide) hv103 rfl mixed h

/- dial_isPort -/
def r77_1 : List VOper := [
 vO 2 (.mov (.c (.bool false)))]
def r77_2 : List VOper := [
 vO 6 (.mov (.t 0)),
 vO 7 (.call 103 [(.t 6), (.c (.int .i64 10)), (.c (.int .i64 65535))]),
 vO 5 (.mov (.t 7)),
 vO 8 (.extract (.t 5) 0),
 vO 9 (.extract (.t 5) 1),
 vO 3 (.mov (.t 8)),
 vO 4 (.mov (.t 9))]
def r77_3 : List VOper := [
 vO 10 (.mov (.t 4)),
 vO 11 (.bin .eql (.t 10) (.c (.int .i64 0))),
 vO 12 (.mov (.t 11)),
 vG 13 12 true (.mov (.t 3)),
 vG 14 12 true (.bin .gtr (.t 13) (.c (.int .i64 0))),
 vO 15 (.pick (.t 12) (.t 14) (.c (.bool false))),
 vO 2 (.mov (.t 15))]
def v77_4 : VCode := (.seq (.region false r77_3) (.keep [2] (.weak .ret)))
def v77_5 : VCode := (.seq (.region false r77_2) (.keep [3, 4] (.weak v77_4)))
def v77 : VCode := (.seq (.region false r77_1) (.keep [0] (.weak v77_5)))
theorem hv77 : codeOf Tryd.prog Tryd.f77.ntmps v77 (Tryd.f77.body.getD .skip) = some v77 := by kernel_rfl
theorem ok77 {ds : List PV} {r : PV} {fl : Bool} (h : vwp Tryd.prog v77 (retQ [(2, none)] r fl) (initSt ds)) : CallOK Tryd.prog 77 ds r fl :=
  fn_ok Tryd.func77 rfl (by decide) hv77 rfl mixed h

/- dial_port -/
def r48_1 : List VOper := [
 vO 6 (.mov (.c (.str [])))]
def r48_2 : List VOper := [
 vO 10 (.mov (.t 2)),
 vO 11 (.bin .eql (.t 10) (.c (.str [])))]
def r48_3 : List VOper := [
 vO 12 (.mov (.t 0)),
 vO 13 (.mov (.t 1)),
 vO 14 (.call 20 [(.t 12), (.c (.str [110, 101, 116])), (.t 13), (.c (.str [115, 101, 114, 118, 105, 99, 101]))]),
 vO 7 (.mov (.t 14))]
def r48_4 : List VOper := [
 vO 15 (.mov (.t 7)),
 vO 16 (.lenSl (.t 15)),
 vO 17 (.bin .eql (.t 16) (.c (.int .i64 0)))]
def r48_5 : List VOper := [
 vO 6 (.mov (.c (.str [])))]
def v48_6 : VCode := (.seq (.region false r48_5) (.keep [6] (.weak .ret)))
def v48_7 : VCode := (.keep [0, 1, 7] (.weak .skip))
def v48_8 : VCode := (.cond (.t 17) v48_6 v48_7)
def v48_9 : VCode := (.seq (.region false r48_4) (.keep [0, 1, 7, 17] (.weak v48_8)))
def r48_10 : List VOper := [
 vO 18 (.mov (.t 7)),
 vO 19 (.indexAddr none (.t 18) (.c (.int .i64 0))),
 vO 20 (.load none (.t 19)),
 vO 2 (.mov (.t 20))]
def v48_11 : VCode := (.post [0, 1, 2] (.region false r48_10))
def v48_12 : VCode := (.seq v48_9 v48_11)
def v48_13 : VCode := (.seq (.region false r48_3) (.keep [0, 1, 7] (.weak v48_12)))
def v48_14 : VCode := (.keep [0, 1, 2] (.weak .skip))
def v48_15 : VCode := (.cond (.t 11) v48_13 v48_14)
def v48_16 : VCode := (.seq (.region false r48_2) (.keep [0, 1, 2, 11] (.weak v48_15)))
def r48_17 : List VOper := [
 vO 21 (.mov (.t 2)),
 vO 22 (.call 77 [(.t 21)])]
def r48_18 : List VOper := [
 vO 23 (.mov (.t 2)),
 vO 6 (.mov (.t 23))]
def v48_19 : VCode := (.seq (.region false r48_18) (.keep [6] (.weak .ret)))
def v48_20 : VCode := (.keep [0, 1, 2] (.weak .skip))
def v48_21 : VCode := (.cond (.t 22) v48_19 v48_20)
def v48_22 : VCode := (.seq (.region false r48_17) (.keep [0, 1, 2, 22] (.weak v48_21)))
def r48_23 : List VOper := [
 vO 24 (.mov (.t 0)),
 vO 25 (.mov (.t 2)),
 vO 26 (.mov (.t 1)),
 vO 27 (.call 20 [(.t 24), (.c (.str [115, 101, 114, 118, 105, 99, 101])), (.t 25), (.t 26)]),
 vO 28 (.lenSl (.t 27)),
 vO 29 (.mov (.c (.int .i64 0)))]
def r48_24 : List VOper := [
 vO 30 (.bin .lss (.t 29) (.t 28))]
def v48_25 : VCode := (.keep [27, 28, 29] (.weak .skip))
def v48_26 : VCode := (.keep [] (.weak (.exit 0)))
def v48_27 : VCode := (.cond (.t 30) v48_25 v48_26)
def r48_28 : List VOper := [
 vO 31 (.indexAddr none (.t 27) (.t 29)),
 vO 32 (.load none (.t 31)),
 vO 9 (.mov (.t 32))]
def r48_29 : List VOper := [
 vO 33 (.mov (.t 9)),
 vO 34 (.call 77 [(.t 33)])]
def r48_30 : List VOper := [
 vO 35 (.mov (.t 9)),
 vO 6 (.mov (.t 35))]
def v48_31 : VCode := (.seq (.region false r48_30) (.keep [6] (.weak .ret)))
def v48_32 : VCode := (.keep [27, 28, 29] (.weak .skip))
def v48_33 : VCode := (.cond (.t 34) v48_31 v48_32)
def v48_34 : VCode := (.seq (.region false r48_29) (.keep [9, 27, 28, 29, 34] (.weak v48_33)))
def v48_35 : VCode := (.seq (.region false r48_28) (.keep [9, 27, 28, 29] (.weak v48_34)))
def v48_36 : VCode := (.block 1 v48_35)
def r48_37 : List VOper := [
 vO 36 (.bin .add (.t 29) (.c (.int .i64 1))),
 vO 29 (.mov (.t 36))]
def v48_38 : VCode := (.post [27, 28, 29] (.region false r48_37))
def v48_39 : VCode := (.seq v48_36 v48_38)
def v48_40 : VCode := (.seq v48_27 v48_39)
def v48_41 : VCode := (.seq (.region false r48_24) (.keep [27, 28, 29, 30] (.weak v48_40)))
def v48_42 : VCode := (.loop [27, 28, 29] v48_41)
def v48_43 : VCode := (.keep [27, 28, 29] (.weak v48_42))
def v48_44 : VCode := (.block 0 v48_43)
def v48_45 : VCode := (.seq (.region false r48_23) (.keep [27, 28, 29] (.weak v48_44)))
def r48_46 : List VOper := [
 vO 6 (.mov (.c (.str [])))]
def v48_47 : VCode := (.seq (.region false r48_46) (.keep [6] (.weak .ret)))
def v48_48 : VCode := (.seq v48_45 v48_47)
def v48_49 : VCode := (.seq v48_22 v48_48)
def v48_50 : VCode := (.seq v48_16 v48_49)
def v48 : VCode := (.seq (.region false r48_1) (.keep [0, 1, 2] (.weak v48_50)))
theorem hv48 : codeOf Tryd.prog Tryd.f48.ntmps v48 (Tryd.f48.body.getD .skip) = some v48 := by kernel_rfl
theorem ok48 {ds : List PV} {r : PV} {fl : Bool} (h : vwp Tryd.prog v48 (retQ [(6, none)] r fl) (initSt ds)) : CallOK Tryd.prog 48 ds r fl :=
  fn_ok Tryd.func48 rfl (by decide) hv48 rfl mixed h

/- dial_Translate -/
def r22_1 : List VOper := [
 vO 5 (.box (some 3) (.t 2)),
 vO 6 (.mov (.c (.nilsl))),
 vO 7 (.mov (.c (.int .i64 0)))]
def r22_2 : List VOper := [
 vO 16 (.load (some 3) (.t 5)),
 vO 17 (.call 32 [(.t 16)]),
 vO 18 (.not (.t 17))]
def r22_3 : List VOper := [
 vO 6 (.mov (.c (.nilsl))),
 vO 7 (.mov (.c (.int .i64 36)))]
def v22_4 : VCode := (.seq (.region false r22_3) (.keep [6, 7] (.weak .ret)))
def v22_5 : VCode := (.keep [0, 1, 5] (.weak .skip))
def v22_6 : VCode := (.cond (.t 18) v22_4 v22_5)
def v22_7 : VCode := (.seq (.region false r22_2) (.keep [0, 1, 5, 18] (.weak v22_6)))
def r22_8 : List VOper := [
 vO 19 (.mov (.t 0)),
 vO 20 (.fieldAddr 0 (.t 5)),
 vO 21 (.load none (.t 20)),
 vO 22 (.call 46 [(.t 19), (.t 21)]),
 vO 8 (.mov (.t 22))]
def r22_9 : List VOper := [
 vO 23 (.mov (.t 8)),
 vO 24 (.lenSl (.t 23)),
 vO 25 (.bin .eql (.t 24) (.c (.int .i64 0)))]
def r22_10 : List VOper := [
 vO 6 (.mov (.c (.nilsl))),
 vO 7 (.mov (.c (.int .i64 37)))]
def v22_11 : VCode := (.seq (.region false r22_10) (.keep [6, 7] (.weak .ret)))
def v22_12 : VCode := (.keep [0, 1, 5, 8] (.weak .skip))
def v22_13 : VCode := (.cond (.t 25) v22_11 v22_12)
def v22_14 : VCode := (.seq (.region false r22_9) (.keep [0, 1, 5, 8, 25] (.weak v22_13)))
def r22_15 : List VOper := [
 vO 26 (.mov (.t 0)),
 vO 27 (.mov (.t 1)),
 vO 28 (.fieldAddr 1 (.t 5)),
 vO 29 (.load none (.t 28)),
 vO 30 (.call 47 [(.t 26), (.t 27), (.t 29)]),
 vO 9 (.mov (.t 30))]
def r22_16 : List VOper := [
 vO 31 (.mov (.t 9)),
 vO 32 (.lenSl (.t 31)),
 vO 33 (.bin .eql (.t 32) (.c (.int .i64 0)))]
def r22_17 : List VOper := [
 vO 6 (.mov (.c (.nilsl))),
 vO 7 (.mov (.c (.int .i64 38)))]
def v22_18 : VCode := (.seq (.region false r22_17) (.keep [6, 7] (.weak .ret)))
def v22_19 : VCode := (.keep [0, 5, 8, 9] (.weak .skip))
def v22_20 : VCode := (.cond (.t 33) v22_18 v22_19)
def v22_21 : VCode := (.seq (.region false r22_16) (.keep [0, 5, 8, 9, 33] (.weak v22_20)))
def r22_22 : List VOper := [
 vO 10 (.mov (.c (.nilsl)))]
def r22_23 : List VOper := [
 vO 34 (.mov (.t 8)),
 vO 35 (.lenSl (.t 34)),
 vO 36 (.mov (.c (.int .i64 0)))]
def r22_24 : List VOper := [
 vO 37 (.bin .lss (.t 36) (.t 35))]
def v22_25 : VCode := (.keep [0, 5, 9, 10, 34, 35, 36] (.weak .skip))
def v22_26 : VCode := (.keep [10] (.weak (.exit 0)))
def v22_27 : VCode := (.cond (.t 37) v22_25 v22_26)
def r22_28 : List VOper := [
 vO 38 (.indexAddr none (.t 34) (.t 36)),
 vO 39 (.load none (.t 38)),
 vO 12 (.mov (.t 39))]
def r22_29 : List VOper := [
 vO 40 (.mov (.t 0)),
 vO 41 (.mov (.t 12)),
 vO 42 (.fieldAddr 2 (.t 5)),
 vO 43 (.load none (.t 42)),
 vO 44 (.call 48 [(.t 40), (.t 41), (.t 43)]),
 vO 13 (.mov (.t 44))]
def r22_30 : List VOper := [
 vO 45 (.mov (.t 13)),
 vO 46 (.bin .eql (.t 45) (.c (.str [])))]
def v22_31 : VCode := (.keep [0, 5, 9, 10, 34, 35, 36] (.weak (.exit 1)))
def v22_32 : VCode := (.keep [0, 5, 9, 10, 12, 13, 34, 35, 36] (.weak .skip))
def v22_33 : VCode := (.cond (.t 46) v22_31 v22_32)
def v22_34 : VCode := (.seq (.region false r22_30) (.keep [0, 5, 9, 10, 12, 13, 34, 35, 36, 46] (.weak v22_33)))
def r22_35 : List VOper := [
 vO 47 (.mov (.t 9)),
 vO 48 (.lenSl (.t 47)),
 vO 49 (.mov (.c (.int .i64 0)))]
def r22_36 : List VOper := [
 vO 50 (.bin .lss (.t 49) (.t 48))]
def v22_37 : VCode := (.keep [0, 5, 9, 10, 12, 13, 34, 35, 36, 47, 48, 49] (.weak .skip))
def v22_38 : VCode := (.keep [0, 5, 9, 10, 34, 35, 36] (.weak (.exit 2)))
def v22_39 : VCode := (.cond (.t 50) v22_37 v22_38)
def r22_40 : List VOper := [
 vO 51 (.indexAddr none (.t 47) (.t 49)),
 vO 52 (.load none (.t 51)),
 vO 15 (.mov (.t 52))]
def r22_41 : List VOper := [
 vO 53 (.mov (.t 10)),
 vO 54 (.mov (.t 12)),
 vO 55 (.mov (.t 15)),
 vO 56 (.mov (.t 13)),
 vO 57 (.build [.str [], .str [], .str []] [(0, 1, (.t 54)), (1, 1, (.t 55)), (2, 1, (.t 56))]),
 vO 58 (.buildSlice (some 3) (.agg [.str [], .str [], .str []]) 1 [(0, (.t 57))]),
 vO 59 (.append (some 3) 48 (.t 53) (.t 58)),
 vO 10 (.mov (.t 59))]
def v22_42 : VCode := (.post [0, 5, 9, 10, 12, 13, 34, 35, 36, 47, 48, 49] (.region false r22_41))
def v22_43 : VCode := (.seq (.region false r22_40) (.keep [0, 5, 9, 10, 12, 13, 15, 34, 35, 36, 47, 48, 49] (.weak v22_42)))
def v22_44 : VCode := (.block 3 v22_43)
def r22_45 : List VOper := [
 vO 60 (.bin .add (.t 49) (.c (.int .i64 1))),
 vO 49 (.mov (.t 60))]
def v22_46 : VCode := (.post [0, 5, 9, 10, 12, 13, 34, 35, 36, 47, 48, 49] (.region false r22_45))
def v22_47 : VCode := (.seq v22_44 v22_46)
def v22_48 : VCode := (.seq v22_39 v22_47)
def v22_49 : VCode := (.seq (.region false r22_36) (.keep [0, 5, 9, 10, 12, 13, 34, 35, 36, 47, 48, 49, 50] (.weak v22_48)))
def v22_50 : VCode := (.loop [0, 5, 9, 10, 12, 13, 34, 35, 36, 47, 48, 49] v22_49)
def v22_51 : VCode := (.keep [0, 5, 9, 10, 12, 13, 34, 35, 36, 47, 48, 49] (.weak v22_50))
def v22_52 : VCode := (.block 2 v22_51)
def v22_53 : VCode := (.seq (.region false r22_35) (.keep [0, 5, 9, 10, 12, 13, 34, 35, 36, 47, 48, 49] (.weak v22_52)))
def v22_54 : VCode := (.seq v22_34 v22_53)
def v22_55 : VCode := (.seq (.region false r22_29) (.keep [0, 5, 9, 10, 12, 13, 34, 35, 36] (.weak v22_54)))
def v22_56 : VCode := (.seq (.region false r22_28) (.keep [0, 5, 9, 10, 12, 34, 35, 36] (.weak v22_55)))
def v22_57 : VCode := (.block 1 v22_56)
def r22_58 : List VOper := [
 vO 61 (.bin .add (.t 36) (.c (.int .i64 1))),
 vO 36 (.mov (.t 61))]
def v22_59 : VCode := (.post [0, 5, 9, 10, 34, 35, 36] (.region false r22_58))
def v22_60 : VCode := (.seq v22_57 v22_59)
def v22_61 : VCode := (.seq v22_27 v22_60)
def v22_62 : VCode := (.seq (.region false r22_24) (.keep [0, 5, 9, 10, 34, 35, 36, 37] (.weak v22_61)))
def v22_63 : VCode := (.loop [0, 5, 9, 10, 34, 35, 36] v22_62)
def v22_64 : VCode := (.keep [0, 5, 9, 10, 34, 35, 36] (.weak v22_63))
def v22_65 : VCode := (.block 0 v22_64)
def v22_66 : VCode := (.seq (.region false r22_23) (.keep [0, 5, 9, 10, 34, 35, 36] (.weak v22_65)))
def r22_67 : List VOper := [
 vO 62 (.mov (.t 10)),
 vO 63 (.lenSl (.t 62)),
 vO 64 (.bin .eql (.t 63) (.c (.int .i64 0)))]
def r22_68 : List VOper := [
 vO 6 (.mov (.c (.nilsl))),
 vO 7 (.mov (.c (.int .i64 39)))]
def v22_69 : VCode := (.seq (.region false r22_68) (.keep [6, 7] (.weak .ret)))
def v22_70 : VCode := (.keep [10] (.weak .skip))
def v22_71 : VCode := (.cond (.t 64) v22_69 v22_70)
def v22_72 : VCode := (.seq (.region false r22_67) (.keep [10, 64] (.weak v22_71)))
def r22_73 : List VOper := [
 vO 65 (.mov (.t 10)),
 vO 6 (.mov (.t 65)),
 vO 7 (.mov (.c (.int .i64 0)))]
def v22_74 : VCode := (.seq (.region false r22_73) (.keep [6, 7] (.weak .ret)))
def v22_75 : VCode := (.seq v22_72 v22_74)
def v22_76 : VCode := (.seq v22_66 v22_75)
def v22_77 : VCode := (.seq (.region false r22_22) (.keep [0, 5, 8, 9, 10] (.weak v22_76)))
def v22_78 : VCode := (.seq v22_21 v22_77)
def v22_79 : VCode := (.seq (.region false r22_15) (.keep [0, 5, 8, 9] (.weak v22_78)))
def v22_80 : VCode := (.seq v22_14 v22_79)
def v22_81 : VCode := (.seq (.region false r22_8) (.keep [0, 1, 5, 8] (.weak v22_80)))
def v22_82 : VCode := (.seq v22_7 v22_81)
def v22 : VCode := (.seq (.region false r22_1) (.keep [0, 1, 5] (.weak v22_82)))
theorem hv22 : codeOf Tryd.prog Tryd.f22.ntmps v22 (Tryd.f22.body.getD .skip) = some v22 := by kernel_rfl
theorem ok22 {ds : List PV} {r : PV} {fl : Bool} (h : vwp Tryd.prog v22 (retQ [(6, none), (7, none)] r fl) (initSt ds)) : CallOK Tryd.prog 22 ds r fl :=
  fn_ok Tryd.func22 rfl (by decide) hv22 rfl mixed h

/- dial_Print -/
def r14_1 : List VOper := [
 vO 1 (.box (some 3) (.t 0)),
 vO 2 (.mov (.c (.str []))),
 vO 3 (.mov (.c (.int .i64 0)))]
def r14_2 : List VOper := [
 vO 5 (.load (some 3) (.t 1)),
 vO 6 (.call 32 [(.t 5)]),
 vO 7 (.not (.t 6))]
def r14_3 : List VOper := [
 vO 2 (.mov (.c (.str []))),
 vO 3 (.mov (.c (.int .i64 36)))]
def v14_4 : VCode := (.seq (.region false r14_3) (.keep [2, 3] (.weak .ret)))
def v14_5 : VCode := (.keep [1] (.weak .skip))
def v14_6 : VCode := (.cond (.t 7) v14_4 v14_5)
def v14_7 : VCode := (.seq (.region false r14_2) (.keep [1, 7] (.weak v14_6)))
def r14_8 : List VOper := [
 vO 8 (.fieldAddr 0 (.t 1)),
 vO 9 (.load none (.t 8)),
 vO 10 (.bin .add (.t 9) (.c (.str [33]))),
 vO 11 (.fieldAddr 1 (.t 1)),
 vO 12 (.load none (.t 11)),
 vO 13 (.bin .add (.t 10) (.t 12)),
 vO 4 (.mov (.t 13))]
def r14_9 : List VOper := [
 vO 14 (.fieldAddr 2 (.t 1)),
 vO 15 (.load none (.t 14)),
 vO 16 (.bin .neq (.t 15) (.c (.str [])))]
def r14_10 : List VOper := [
 vO 17 (.mov (.t 4)),
 vO 18 (.fieldAddr 2 (.t 1)),
 vO 19 (.load none (.t 18)),
 vO 20 (.bin .add (.c (.str [33])) (.t 19)),
 vO 21 (.bin .add (.t 17) (.t 20)),
 vO 4 (.mov (.t 21))]
def v14_11 : VCode := (.post [4] (.region false r14_10))
def v14_12 : VCode := (.keep [4] (.weak .skip))
def v14_13 : VCode := (.cond (.t 16) v14_11 v14_12)
def v14_14 : VCode := (.seq (.region false r14_9) (.keep [1, 4, 16] (.weak v14_13)))
def r14_15 : List VOper := [
 vO 22 (.mov (.t 4)),
 vO 2 (.mov (.t 22)),
 vO 3 (.mov (.c (.int .i64 0)))]
def v14_16 : VCode := (.seq (.region false r14_15) (.keep [2, 3] (.weak .ret)))
def v14_17 : VCode := (.seq v14_14 v14_16)
def v14_18 : VCode := (.seq (.region false r14_8) (.keep [1, 4] (.weak v14_17)))
def v14_19 : VCode := (.seq v14_7 v14_18)
def v14 : VCode := (.seq (.region false r14_1) (.keep [1] (.weak v14_19)))
theorem hv14 : codeOf Tryd.prog Tryd.f14.ntmps v14 (Tryd.f14.body.getD .skip) = some v14 := by kernel_rfl
theorem ok14 {ds : List PV} {r : PV} {fl : Bool} (h : vwp Tryd.prog v14 (retQ [(2, none), (3, none)] r fl) (initSt ds)) : CallOK Tryd.prog 14 ds r fl :=
  fn_ok Tryd.func14 rfl (by decide) hv14 rfl mixed h

/- dial_Parse -/
def r12_1 : List VOper := [
 vO 2 (.alloc (some 3) (.agg [.str [], .str [], .str []])),
 vO 3 (.mov (.c (.int .i64 0)))]
def r12_2 : List VOper := [
 vO 6 (.mov (.t 0)),
 vO 7 (.call 31 [(.t 6), (.c (.str [33]))]),
 vO 4 (.mov (.t 7))]
def r12_3 : List VOper := [
 vO 8 (.mov (.t 4)),
 vO 9 (.lenSl (.t 8)),
 vO 10 (.bin .lss (.t 9) (.c (.int .i64 2))),
 vO 11 (.mov (.t 10)),
 vG 12 11 false (.mov (.t 4)),
 vG 13 11 false (.lenSl (.t 12)),
 vG 14 11 false (.bin .gtr (.t 13) (.c (.int .i64 3))),
 vO 15 (.pick (.t 11) (.c (.bool true)) (.t 14))]
def r12_4 : List VOper := [
 vO 16 (.build [.str [], .str [], .str []] []),
 { dst := none, op := .store (some 3) (.t 2) (.t 16) },
 vO 3 (.mov (.c (.int .i64 36)))]
def v12_5 : VCode := (.seq (.region false r12_4) (.keep [2, 3] (.weak .ret)))
def v12_6 : VCode := (.keep [2, 4] (.weak .skip))
def v12_7 : VCode := (.cond (.t 15) v12_5 v12_6)
def v12_8 : VCode := (.seq (.region false r12_3) (.keep [2, 4, 15] (.weak v12_7)))
def r12_9 : List VOper := [
 vO 17 (.mov (.t 4)),
 { dst := some 18, op := .indexAddr none (.t 17) (.c (.int .i64 0)), bef := [0] },
 { dst := some 19, op := .load none (.t 18), bef := [0, 1] },
 vO 20 (.mov (.t 4)),
 { dst := some 21, op := .indexAddr none (.t 20) (.c (.int .i64 1)), bef := [3] },
 { dst := some 22, op := .load none (.t 21), bef := [3, 4] },
 { dst := some 23, op := .build [.str [], .str [], .str []] [(0, 1, (.t 19)), (1, 1, (.t 22))], bef := [0, 1, 2, 3, 4, 5] },
 vO 5 (.alloc (some 3) (.agg [.str [], .str [], .str []])),
 { dst := none, op := .store (some 3) (.t 5) (.t 23), bef := [0, 1, 2, 3, 4, 5, 6, 7] }]
def r12_10 : List VOper := [
 vO 24 (.mov (.t 4)),
 vO 25 (.lenSl (.t 24)),
 vO 26 (.bin .eql (.t 25) (.c (.int .i64 3)))]
def r12_11 : List VOper := [
 vO 27 (.mov (.t 4)),
 vO 28 (.indexAddr none (.t 27) (.c (.int .i64 2))),
 vO 29 (.load none (.t 28)),
 vO 30 (.fieldAddr 2 (.t 5)),
 { dst := none, op := .store none (.t 30) (.t 29) }]
def v12_12 : VCode := (.post [2, 4, 5] (.region false r12_11))
def v12_13 : VCode := (.keep [2, 4, 5] (.weak .skip))
def v12_14 : VCode := (.cond (.t 26) v12_12 v12_13)
def v12_15 : VCode := (.seq (.region false r12_10) (.keep [2, 4, 5, 26] (.weak v12_14)))
def r12_16 : List VOper := [
 vO 31 (.load (some 3) (.t 5)),
 vO 32 (.call 32 [(.t 31)]),
 vO 33 (.not (.t 32)),
 vO 34 (.mov (.t 33)),
 vG 35 34 false (.mov (.t 4)),
 vG 36 34 false (.lenSl (.t 35)),
 vG 37 34 false (.bin .eql (.t 36) (.c (.int .i64 3))),
 vG 38 34 false (.mov (.t 37)),
 vG 39 38 true (.fieldAddr 2 (.t 5)),
 vG 40 38 true (.load none (.t 39)),
 vG 41 38 true (.bin .eql (.t 40) (.c (.str []))),
 vG 42 34 false (.pick (.t 38) (.t 41) (.c (.bool false))),
 vO 43 (.pick (.t 34) (.c (.bool true)) (.t 42))]
def r12_17 : List VOper := [
 vO 44 (.build [.str [], .str [], .str []] []),
 { dst := none, op := .store (some 3) (.t 2) (.t 44) },
 vO 3 (.mov (.c (.int .i64 36)))]
def v12_18 : VCode := (.seq (.region false r12_17) (.keep [2, 3] (.weak .ret)))
def v12_19 : VCode := (.keep [2, 5] (.weak .skip))
def v12_20 : VCode := (.cond (.t 43) v12_18 v12_19)
def v12_21 : VCode := (.seq (.region false r12_16) (.keep [2, 5, 43] (.weak v12_20)))
def r12_22 : List VOper := [
 vO 45 (.load (some 3) (.t 5)),
 { dst := none, op := .store (some 3) (.t 2) (.t 45) },
 vO 3 (.mov (.c (.int .i64 0)))]
def v12_23 : VCode := (.seq (.region false r12_22) (.keep [2, 3] (.weak .ret)))
def v12_24 : VCode := (.seq v12_21 v12_23)
def v12_25 : VCode := (.seq v12_15 v12_24)
def v12_26 : VCode := (.seq (.region true r12_9) (.keep [2, 4, 5] (.weak v12_25)))
def v12_27 : VCode := (.seq v12_8 v12_26)
def v12_28 : VCode := (.seq (.region false r12_2) (.keep [2, 4] (.weak v12_27)))
def v12 : VCode := (.seq (.region false r12_1) (.keep [0, 2] (.weak v12_28)))
theorem hv12 : codeOf Tryd.prog Tryd.f12.ntmps v12 (Tryd.f12.body.getD .skip) = some v12 := by kernel_rfl
theorem ok12 {ds : List PV} {r : PV} {fl : Bool} (h : vwp Tryd.prog v12 (retQ [(2, some (some 3)), (3, none)] r fl) (initSt ds)) : CallOK Tryd.prog 12 ds r fl :=
  fn_ok Tryd.func12 rfl (by decide) hv12 rfl mixed h

/- law27_awake -/
def r11_1 : List VOper := [
 vO 0 (.mov (.c (.bool false)))]
def r11_2 : List VOper := [
 vO 9 (.call 16 [(.c (.str [110, 101, 116, 61, 116, 99, 112, 32, 115, 101, 114, 118, 105, 99, 101, 61, 57, 102, 115, 10, 115, 101, 114, 118, 105, 99, 101, 61, 57, 102, 115, 10, 32, 116, 99, 112, 61, 53, 54, 52, 10, 104, 111, 115, 116, 61, 102, 115, 10]))]),
 vO 8 (.mov (.t 9)),
 vO 10 (.extract (.t 8) 0),
 vO 11 (.extract (.t 8) 1),
 vO 12 (.extract (.t 8) 2),
 vO 1 (.mov (.t 10)),
 vO 2 (.mov (.t 11)),
 vO 3 (.mov (.t 12))]
def r11_3 : List VOper := [
 vO 13 (.mov (.t 3)),
 vO 14 (.bin .neq (.t 13) (.c (.int .i64 0))),
 vO 15 (.mov (.t 14)),
 vG 16 15 false (.mov (.t 2)),
 vG 17 15 false (.bin .neq (.t 16) (.c (.int .i64 0))),
 vO 18 (.pick (.t 15) (.c (.bool true)) (.t 17)),
 vO 19 (.mov (.t 18)),
 vG 20 19 false (.mov (.t 1)),
 vG 21 19 false (.lenSl (.t 20)),
 vG 22 19 false (.bin .neq (.t 21) (.c (.int .i64 3))),
 vO 23 (.pick (.t 19) (.c (.bool true)) (.t 22)),
 vO 24 (.mov (.t 23)),
 vG 25 24 false (.mov (.t 1)),
 vG 26 24 false (.indexAddr (some 1) (.t 25) (.c (.int .i64 1))),
 vG 27 24 false (.fieldAddr 0 (.t 26)),
 vG 28 24 false (.load none (.t 27)),
 vG 29 24 false (.lenSl (.t 28)),
 vG 30 24 false (.bin .neq (.t 29) (.c (.int .i64 2))),
 vO 31 (.pick (.t 24) (.c (.bool true)) (.t 30))]
def r11_4 : List VOper := [
 vO 0 (.mov (.c (.bool false)))]
def v11_5 : VCode := (.seq (.region false r11_4) (.keep [0] (.weak .ret)))
def v11_6 : VCode := (.keep [1] (.weak .skip))
def v11_7 : VCode := (.cond (.t 31) v11_5 v11_6)
def v11_8 : VCode := (.seq (.region false r11_3) (.keep [1, 31] (.weak v11_7)))
def r11_9 : List VOper := [
 vO 33 (.mov (.t 1)),
 vO 34 (.build [.str [], .str [], .str []] [(0, 1, (.c (.str [110, 101, 116]))), (1, 1, (.c (.str [102, 115])))]),
 vO 35 (.call 22 [(.t 33), (.c (.str [116, 101, 114, 109])), (.t 34)]),
 vO 32 (.mov (.t 35)),
 vO 36 (.extract (.t 32) 0),
 vO 37 (.extract (.t 32) 1),
 vO 4 (.mov (.t 36)),
 vO 3 (.mov (.t 37))]
def r11_10 : List VOper := [
 vO 38 (.mov (.t 3)),
 vO 39 (.bin .neq (.t 38) (.c (.int .i64 0))),
 vO 40 (.mov (.t 39)),
 vG 41 40 false (.mov (.t 4)),
 vG 42 40 false (.lenSl (.t 41)),
 vG 43 40 false (.bin .neq (.t 42) (.c (.int .i64 1))),
 vO 44 (.pick (.t 40) (.c (.bool true)) (.t 43))]
def r11_11 : List VOper := [
 vO 0 (.mov (.c (.bool false)))]
def v11_12 : VCode := (.seq (.region false r11_11) (.keep [0] (.weak .ret)))
def v11_13 : VCode := (.keep [4] (.weak .skip))
def v11_14 : VCode := (.cond (.t 44) v11_12 v11_13)
def v11_15 : VCode := (.seq (.region false r11_10) (.keep [4, 44] (.weak v11_14)))
def r11_16 : List VOper := [
 vO 46 (.mov (.t 4)),
 vO 47 (.indexAddr (some 3) (.t 46) (.c (.int .i64 0))),
 vO 48 (.load (some 3) (.t 47)),
 vO 49 (.call 14 [(.t 48)]),
 vO 45 (.mov (.t 49)),
 vO 50 (.extract (.t 45) 0),
 vO 51 (.extract (.t 45) 1),
 vO 5 (.mov (.t 50)),
 vO 3 (.mov (.t 51))]
def r11_17 : List VOper := [
 vO 53 (.call 12 [(.c (.str [116, 99, 112, 33, 102, 115, 33, 53, 54, 52]))]),
 vO 52 (.mov (.t 53)),
 vO 54 (.extract (.t 52) 0),
 vO 55 (.extract (.t 52) 1),
 vO 6 (.alloc (some 3) (.agg [.str [], .str [], .str []])),
 { dst := none, op := .store (some 3) (.t 6) (.t 54) },
 vO 7 (.mov (.t 55))]
def r11_18 : List VOper := [
 vO 56 (.mov (.t 5)),
 { dst := some 57, op := .bin .eql (.t 56) (.c (.str [116, 99, 112, 33, 102, 115, 33, 53, 54, 52])), bef := [0] },
 { dst := some 58, op := .mov (.t 57), bef := [0, 1] },
 { dst := some 59, op := .mov (.t 3), guard := some (58, true), bef := [0, 1, 2] },
 { dst := some 60, op := .bin .eql (.t 59) (.c (.int .i64 0)), guard := some (58, true), bef := [0, 1, 2, 3] },
 { dst := some 61, op := .pick (.t 58) (.t 60) (.c (.bool false)), bef := [0, 1, 2, 3, 4] },
 { dst := some 62, op := .mov (.t 61), bef := [0, 1, 2, 3, 4, 5] },
 { dst := some 63, op := .load (some 3) (.t 6), guard := some (62, true), bef := [0, 1, 2, 3, 4, 5, 6] },
 { dst := some 64, op := .mov (.t 4), guard := some (62, true), bef := [0, 1, 2, 3, 4, 5, 6] },
 { dst := some 65, op := .indexAddr (some 3) (.t 64) (.c (.int .i64 0)), guard := some (62, true), bef := [0, 1, 2, 3, 4, 5, 6, 8] },
 { dst := some 66, op := .load (some 3) (.t 65), guard := some (62, true), bef := [0, 1, 2, 3, 4, 5, 6, 8, 9] },
 { dst := some 67, op := .aeq false [2, 2, 2] (.t 63) (.t 66), guard := some (62, true), bef := [0, 1, 2, 3, 4, 5, 6, 7, 8, 9, 10] },
 { dst := some 68, op := .pick (.t 62) (.t 67) (.c (.bool false)), bef := [0, 1, 2, 3, 4, 5, 6, 7, 8, 9, 10, 11] },
 { dst := some 69, op := .mov (.t 68), bef := [0, 1, 2, 3, 4, 5, 6, 7, 8, 9, 10, 11, 12] },
 { dst := some 70, op := .mov (.t 7), guard := some (69, true), bef := [0, 1, 2, 3, 4, 5, 6, 7, 8, 9, 10, 11, 12, 13] },
 { dst := some 71, op := .bin .eql (.t 70) (.c (.int .i64 0)), guard := some (69, true), bef := [0, 1, 2, 3, 4, 5, 6, 7, 8, 9, 10, 11, 12, 13, 14] },
 { dst := some 72, op := .pick (.t 69) (.t 71) (.c (.bool false)), bef := [0, 1, 2, 3, 4, 5, 6, 7, 8, 9, 10, 11, 12, 13, 14, 15] },
 { dst := some 0, op := .mov (.t 72), bef := [0, 1, 2, 3, 4, 5, 6, 7, 8, 9, 10, 11, 12, 13, 14, 15, 16] }]
def v11_19 : VCode := (.seq (.region true r11_18) (.keep [0] (.weak .ret)))
def v11_20 : VCode := (.seq (.region false r11_17) (.keep [3, 4, 5, 6, 7] (.weak v11_19)))
def v11_21 : VCode := (.seq (.region false r11_16) (.keep [3, 4, 5] (.weak v11_20)))
def v11_22 : VCode := (.seq v11_15 v11_21)
def v11_23 : VCode := (.seq (.region false r11_9) (.keep [3, 4] (.weak v11_22)))
def v11_24 : VCode := (.seq v11_8 v11_23)
def v11_25 : VCode := (.seq (.region false r11_2) (.keep [1, 2, 3] (.weak v11_24)))
def v11 : VCode := (.seq (.region false r11_1) (.keep [] (.weak v11_25)))
theorem hv11 : codeOf Tryd.prog Tryd.f11.ntmps v11 (Tryd.f11.body.getD .skip) = some v11 := by kernel_rfl
theorem ok11 {ds : List PV} {r : PV} {fl : Bool} (h : vwp Tryd.prog v11 (retQ [(0, none)] r fl) (initSt ds)) : CallOK Tryd.prog 11 ds r fl :=
  fn_ok Tryd.func11 rfl (by decide) hv11 rfl mixed h

/- ref27_lines -/
def r37_1 : List VOper := [
 vO 2 (.mov (.c (.nilsl)))]
def r37_2 : List VOper := [
 vO 3 (.mov (.c (.nilsl)))]
def r37_3 : List VOper := [
 vO 4 (.mov (.c (.int .i64 0)))]
def r37_4 : List VOper := [
 vO 5 (.mov (.c (.int .i64 0)))]
def r37_5 : List VOper := [
 vO 6 (.mov (.t 5)),
 vO 7 (.mov (.t 0)),
 vO 8 (.lenStr (.t 7)),
 vO 9 (.bin .lss (.t 6) (.t 8))]
def v37_6 : VCode := (.keep [0, 3, 4, 5] (.weak .skip))
def v37_7 : VCode := (.keep [0, 3, 4] (.weak (.exit 0)))
def v37_8 : VCode := (.cond (.t 9) v37_6 v37_7)
def v37_9 : VCode := (.seq (.region false r37_5) (.keep [0, 3, 4, 5, 9] (.weak v37_8)))
def r37_10 : List VOper := [
 vO 12 (.mov (.t 0)),
 vO 13 (.mov (.t 5)),
 vO 14 (.indexStr (.t 12) (.t 13)),
 vO 15 (.bin .eql (.t 14) (.c (.int .u8 10)))]
def r37_11 : List VOper := [
 vO 16 (.mov (.t 3)),
 vO 17 (.mov (.t 0)),
 vO 18 (.mov (.t 4)),
 vO 19 (.mov (.t 5)),
 vO 20 (.slStr (.t 17) (some (.t 18)) (some (.t 19))),
 vO 21 (.buildSlice none (.str []) 1 [(0, (.t 20))]),
 vO 22 (.append none 16 (.t 16) (.t 21)),
 vO 3 (.mov (.t 22))]
def r37_12 : List VOper := [
 vO 23 (.mov (.t 5)),
 vO 24 (.bin .add (.t 23) (.c (.int .i64 1))),
 vO 4 (.mov (.t 24))]
def v37_13 : VCode := (.post [0, 3, 4, 5] (.region false r37_12))
def v37_14 : VCode := (.seq (.region false r37_11) (.keep [0, 3, 5] (.weak v37_13)))
def v37_15 : VCode := (.keep [0, 3, 4, 5] (.weak .skip))
def v37_16 : VCode := (.cond (.t 15) v37_14 v37_15)
def v37_17 : VCode := (.seq (.region false r37_10) (.keep [0, 3, 4, 5, 15] (.weak v37_16)))
def v37_18 : VCode := (.block 1 v37_17)
def r37_19 : List VOper := [
 vO 10 (.mov (.t 5)),
 vO 11 (.bin .add (.t 10) (.c (.int .i64 1))),
 vO 5 (.mov (.t 11))]
def v37_20 : VCode := (.post [0, 3, 4, 5] (.region false r37_19))
def v37_21 : VCode := (.seq v37_18 v37_20)
def v37_22 : VCode := (.seq v37_9 v37_21)
def v37_23 : VCode := (.loop [0, 3, 4, 5] v37_22)
def v37_24 : VCode := (.keep [0, 3, 4, 5] (.weak v37_23))
def v37_25 : VCode := (.block 0 v37_24)
def v37_26 : VCode := (.seq (.region false r37_4) (.keep [0, 3, 4, 5] (.weak v37_25)))
def r37_27 : List VOper := [
 vO 25 (.mov (.t 4)),
 vO 26 (.mov (.t 0)),
 vO 27 (.lenStr (.t 26)),
 vO 28 (.bin .lss (.t 25) (.t 27))]
def r37_28 : List VOper := [
 vO 29 (.mov (.t 3)),
 vO 30 (.mov (.t 0)),
 vO 31 (.mov (.t 4)),
 vO 32 (.slStr (.t 30) (some (.t 31)) none),
 vO 33 (.buildSlice none (.str []) 1 [(0, (.t 32))]),
 vO 34 (.append none 16 (.t 29) (.t 33)),
 vO 3 (.mov (.t 34))]
def v37_29 : VCode := (.post [3] (.region false r37_28))
def v37_30 : VCode := (.keep [3] (.weak .skip))
def v37_31 : VCode := (.cond (.t 28) v37_29 v37_30)
def v37_32 : VCode := (.seq (.region false r37_27) (.keep [0, 3, 4, 28] (.weak v37_31)))
def r37_33 : List VOper := [
 vO 35 (.mov (.t 3)),
 vO 2 (.mov (.t 35))]
def v37_34 : VCode := (.seq (.region false r37_33) (.keep [2] (.weak .ret)))
def v37_35 : VCode := (.seq v37_32 v37_34)
def v37_36 : VCode := (.seq v37_26 v37_35)
def v37_37 : VCode := (.seq (.region false r37_3) (.keep [0, 3, 4] (.weak v37_36)))
def v37_38 : VCode := (.seq (.region false r37_2) (.keep [0, 3] (.weak v37_37)))
def v37 : VCode := (.seq (.region false r37_1) (.keep [0] (.weak v37_38)))
theorem hv37 : codeOf Tryd.prog Tryd.f37.ntmps v37 (Tryd.f37.body.getD .skip) = some v37 := by kernel_rfl
theorem ok37 {ds : List PV} {r : PV} {fl : Bool} (h : vwp Tryd.prog v37 (retQ [(2, none)] r fl) (initSt ds)) : CallOK Tryd.prog 37 ds r fl :=
  fn_ok Tryd.func37 rfl (by decide) hv37 rfl mixed h

/- ref27_ignored -/
def r38_1 : List VOper := [
 vO 2 (.mov (.c (.bool false)))]
def r38_2 : List VOper := [
 vO 4 (.mov (.t 0)),
 vO 5 (.lenStr (.t 4)),
 vO 6 (.bin .gtr (.t 5) (.c (.int .i64 0))),
 vO 7 (.mov (.t 6)),
 vG 8 7 true (.mov (.t 0)),
 vG 9 7 true (.indexStr (.t 8) (.c (.int .i64 0))),
 vG 10 7 true (.bin .eql (.t 9) (.c (.int .u8 35))),
 vO 11 (.pick (.t 7) (.t 10) (.c (.bool false)))]
def r38_3 : List VOper := [
 vO 2 (.mov (.c (.bool true)))]
def v38_4 : VCode := (.seq (.region false r38_3) (.keep [2] (.weak .ret)))
def v38_5 : VCode := (.keep [0] (.weak .skip))
def v38_6 : VCode := (.cond (.t 11) v38_4 v38_5)
def v38_7 : VCode := (.seq (.region false r38_2) (.keep [0, 11] (.weak v38_6)))
def r38_8 : List VOper := [
 vO 3 (.mov (.c (.int .i64 0)))]
def r38_9 : List VOper := [
 vO 12 (.mov (.t 3)),
 vO 13 (.mov (.t 0)),
 vO 14 (.lenStr (.t 13)),
 vO 15 (.bin .lss (.t 12) (.t 14))]
def v38_10 : VCode := (.keep [0, 3] (.weak .skip))
def v38_11 : VCode := (.keep [] (.weak (.exit 0)))
def v38_12 : VCode := (.cond (.t 15) v38_10 v38_11)
def v38_13 : VCode := (.seq (.region false r38_9) (.keep [0, 3, 15] (.weak v38_12)))
def r38_14 : List VOper := [
 vO 18 (.mov (.t 0)),
 vO 19 (.mov (.t 3)),
 vO 20 (.indexStr (.t 18) (.t 19)),
 vO 21 (.bin .neq (.t 20) (.c (.int .u8 32))),
 vO 22 (.mov (.t 21)),
 vG 23 22 true (.mov (.t 0)),
 vG 24 22 true (.mov (.t 3)),
 vG 25 22 true (.indexStr (.t 23) (.t 24)),
 vG 26 22 true (.bin .neq (.t 25) (.c (.int .u8 9))),
 vO 27 (.pick (.t 22) (.t 26) (.c (.bool false)))]
def r38_15 : List VOper := [
 vO 2 (.mov (.c (.bool false)))]
def v38_16 : VCode := (.seq (.region false r38_15) (.keep [2] (.weak .ret)))
def v38_17 : VCode := (.keep [0, 3] (.weak .skip))
def v38_18 : VCode := (.cond (.t 27) v38_16 v38_17)
def v38_19 : VCode := (.seq (.region false r38_14) (.keep [0, 3, 27] (.weak v38_18)))
def v38_20 : VCode := (.block 1 v38_19)
def r38_21 : List VOper := [
 vO 16 (.mov (.t 3)),
 vO 17 (.bin .add (.t 16) (.c (.int .i64 1))),
 vO 3 (.mov (.t 17))]
def v38_22 : VCode := (.post [0, 3] (.region false r38_21))
def v38_23 : VCode := (.seq v38_20 v38_22)
def v38_24 : VCode := (.seq v38_13 v38_23)
def v38_25 : VCode := (.loop [0, 3] v38_24)
def v38_26 : VCode := (.keep [0, 3] (.weak v38_25))
def v38_27 : VCode := (.block 0 v38_26)
def v38_28 : VCode := (.seq (.region false r38_8) (.keep [0, 3] (.weak v38_27)))
def r38_29 : List VOper := [
 vO 2 (.mov (.c (.bool true)))]
def v38_30 : VCode := (.seq (.region false r38_29) (.keep [2] (.weak .ret)))
def v38_31 : VCode := (.seq v38_28 v38_30)
def v38_32 : VCode := (.seq v38_7 v38_31)
def v38 : VCode := (.seq (.region false r38_1) (.keep [0] (.weak v38_32)))
theorem hv38 : codeOf Tryd.prog Tryd.f38.ntmps v38 (Tryd.f38.body.getD .skip) = some v38 := by kernel_rfl
theorem ok38 {ds : List PV} {r : PV} {fl : Bool} (h : vwp Tryd.prog v38 (retQ [(2, none)] r fl) (initSt ds)) : CallOK Tryd.prog 38 ds r fl :=
  fn_ok Tryd.func38 rfl (by decide) hv38 rfl mixed h

/- ref22_space -/
def r70_1 : List VOper := [
 vO 2 (.mov (.c (.bool false)))]
def r70_2 : List VOper := [
 vO 3 (.mov (.t 0)),
 vO 4 (.bin .eql (.t 3) (.c (.int .u8 32))),
 vO 5 (.mov (.t 4)),
 vG 6 5 false (.mov (.t 0)),
 vG 7 5 false (.bin .eql (.t 6) (.c (.int .u8 9))),
 vO 8 (.pick (.t 5) (.c (.bool true)) (.t 7)),
 vO 2 (.mov (.t 8))]
def v70_3 : VCode := (.seq (.region false r70_2) (.keep [2] (.weak .ret)))
def v70 : VCode := (.seq (.region false r70_1) (.keep [0] (.weak v70_3)))
theorem hv70 : codeOf Tryd.prog Tryd.f70.ntmps v70 (Tryd.f70.body.getD .skip) = some v70 := by kernel_rfl
theorem ok70 {ds : List PV} {r : PV} {fl : Bool} (h : vwp Tryd.prog v70 (retQ [(2, none)] r fl) (initSt ds)) : CallOK Tryd.prog 70 ds r fl :=
  fn_ok Tryd.func70 rfl (by decide) hv70 rfl mixed h

/- ref22_ends -/
def r97_1 : List VOper := [
 vO 4 (.mov (.c (.bool false)))]
def r97_2 : List VOper := [
 vO 5 (.mov (.t 1)),
 vO 6 (.mov (.t 0)),
 vO 7 (.lenStr (.t 6)),
 vO 8 (.bin .eql (.t 5) (.t 7)),
 vO 9 (.mov (.t 8)),
 vG 10 9 false (.mov (.t 0)),
 vG 11 9 false (.mov (.t 1)),
 vG 12 9 false (.indexStr (.t 10) (.t 11)),
 vG 13 9 false (.call 70 [(.t 12)]),
 vO 14 (.pick (.t 9) (.c (.bool true)) (.t 13)),
 vO 4 (.mov (.t 14))]
def v97_3 : VCode := (.seq (.region false r97_2) (.keep [4] (.weak .ret)))
def v97 : VCode := (.seq (.region false r97_1) (.keep [0, 1] (.weak v97_3)))
theorem hv97 : codeOf Tryd.prog Tryd.f97.ntmps v97 (Tryd.f97.body.getD .skip) = some v97 := by kernel_rfl
theorem ok97 {ds : List PV} {r : PV} {fl : Bool} (h : vwp Tryd.prog v97 (retQ [(4, none)] r fl) (initSt ds)) : CallOK Tryd.prog 97 ds r fl :=
  fn_ok Tryd.func97 rfl (by decide) hv97 rfl mixed h

/- ref22_quoted -/
def r98_1 : List VOper := [
 vO 4 (.mov (.c (.str []))),
 vO 5 (.mov (.c (.int .i64 0))),
 vO 6 (.mov (.c (.int .i64 0)))]
def r98_2 : List VOper := [
 vO 7 (.mov (.c (.str [])))]
def r98_3 : List VOper := [
 vO 8 (.mov (.t 1)),
 vO 9 (.mov (.t 0)),
 vO 10 (.lenStr (.t 9)),
 vO 11 (.bin .lss (.t 8) (.t 10))]
def v98_4 : VCode := (.keep [0, 1, 7] (.weak .skip))
def v98_5 : VCode := (.keep [1] (.weak (.exit 0)))
def v98_6 : VCode := (.cond (.t 11) v98_4 v98_5)
def v98_7 : VCode := (.seq (.region false r98_3) (.keep [0, 1, 7, 11] (.weak v98_6)))
def r98_8 : List VOper := [
 vO 12 (.mov (.t 0)),
 vO 13 (.mov (.t 1)),
 vO 14 (.indexStr (.t 12) (.t 13)),
 vO 15 (.bin .neq (.t 14) (.c (.int .u8 39)))]
def r98_9 : List VOper := [
 vO 16 (.mov (.t 7)),
 vO 17 (.mov (.t 0)),
 vO 18 (.mov (.t 1)),
 vO 19 (.mov (.t 1)),
 vO 20 (.bin .add (.t 19) (.c (.int .i64 1))),
 vO 21 (.slStr (.t 17) (some (.t 18)) (some (.t 20))),
 vO 22 (.bin .add (.t 16) (.t 21)),
 vO 7 (.mov (.t 22))]
def r98_10 : List VOper := [
 vO 23 (.mov (.t 1)),
 vO 24 (.bin .add (.t 23) (.c (.int .i64 1))),
 vO 1 (.mov (.t 24))]
def v98_11 : VCode := (.keep [0, 1, 7] (.weak (.exit 1)))
def v98_12 : VCode := (.seq (.region false r98_10) (.keep [0, 1, 7] (.weak v98_11)))
def v98_13 : VCode := (.seq (.region false r98_9) (.keep [0, 1, 7] (.weak v98_12)))
def v98_14 : VCode := (.keep [0, 1, 7] (.weak .skip))
def v98_15 : VCode := (.cond (.t 15) v98_13 v98_14)
def v98_16 : VCode := (.seq (.region false r98_8) (.keep [0, 1, 7, 15] (.weak v98_15)))
def r98_17 : List VOper := [
 vO 25 (.mov (.t 1)),
 vO 26 (.bin .add (.t 25) (.c (.int .i64 1))),
 vO 27 (.mov (.t 0)),
 vO 28 (.lenStr (.t 27)),
 vO 29 (.bin .eql (.t 26) (.t 28)),
 vO 30 (.mov (.t 29)),
 vG 31 30 false (.mov (.t 0)),
 vG 32 30 false (.mov (.t 1)),
 vG 33 30 false (.bin .add (.t 32) (.c (.int .i64 1))),
 vG 34 30 false (.indexStr (.t 31) (.t 33)),
 vG 35 30 false (.bin .neq (.t 34) (.c (.int .u8 39))),
 vO 36 (.pick (.t 30) (.c (.bool true)) (.t 35))]
def r98_18 : List VOper := [
 vO 37 (.mov (.t 7)),
 vO 38 (.mov (.t 1)),
 vO 39 (.bin .add (.t 38) (.c (.int .i64 1))),
 vO 4 (.mov (.t 37)),
 vO 5 (.mov (.t 39)),
 vO 6 (.mov (.c (.int .i64 0)))]
def v98_19 : VCode := (.seq (.region false r98_18) (.keep [4, 5, 6] (.weak .ret)))
def v98_20 : VCode := (.keep [0, 1, 7] (.weak .skip))
def v98_21 : VCode := (.cond (.t 36) v98_19 v98_20)
def v98_22 : VCode := (.seq (.region false r98_17) (.keep [0, 1, 7, 36] (.weak v98_21)))
def r98_23 : List VOper := [
 vO 40 (.mov (.t 7)),
 vO 41 (.bin .add (.t 40) (.c (.str [39]))),
 vO 7 (.mov (.t 41))]
def r98_24 : List VOper := [
 vO 42 (.mov (.t 1)),
 vO 43 (.bin .add (.t 42) (.c (.int .i64 2))),
 vO 1 (.mov (.t 43))]
def v98_25 : VCode := (.post [0, 1, 7] (.region false r98_24))
def v98_26 : VCode := (.seq (.region false r98_23) (.keep [0, 1, 7] (.weak v98_25)))
def v98_27 : VCode := (.seq v98_22 v98_26)
def v98_28 : VCode := (.seq v98_16 v98_27)
def v98_29 : VCode := (.block 1 v98_28)
def v98_30 : VCode := (.seq v98_7 v98_29)
def v98_31 : VCode := (.loop [0, 1, 7] v98_30)
def v98_32 : VCode := (.keep [0, 1, 7] (.weak v98_31))
def v98_33 : VCode := (.block 0 v98_32)
def r98_34 : List VOper := [
 vO 44 (.mov (.t 1)),
 vO 4 (.mov (.c (.str []))),
 vO 5 (.mov (.t 44)),
 vO 6 (.mov (.c (.int .i64 48)))]
def v98_35 : VCode := (.seq (.region false r98_34) (.keep [4, 5, 6] (.weak .ret)))
def v98_36 : VCode := (.seq v98_33 v98_35)
def v98_37 : VCode := (.seq (.region false r98_2) (.keep [0, 1, 7] (.weak v98_36)))
def v98 : VCode := (.seq (.region false r98_1) (.keep [0, 1] (.weak v98_37)))
theorem hv98 : codeOf Tryd.prog Tryd.f98.ntmps v98 (Tryd.f98.body.getD .skip) = some v98 := by kernel_rfl
theorem ok98 {ds : List PV} {r : PV} {fl : Bool} (h : vwp Tryd.prog v98 (retQ [(4, none), (5, none), (6, none)] r fl) (initSt ds)) : CallOK Tryd.prog 98 ds r fl :=
  fn_ok Tryd.func98 rfl (by decide) hv98 rfl mixed h

/- ref22_read -/
def r71_1 : List VOper := [
 vO 4 (.alloc (some 3) (.agg [.str [], .str [], .bool false])),
 vO 5 (.mov (.c (.int .i64 0))),
 vO 6 (.mov (.c (.int .i64 0)))]
def r71_2 : List VOper := [
 vO 12 (.mov (.t 1)),
 vO 7 (.mov (.t 12))]
def r71_3 : List VOper := [
 vO 13 (.mov (.t 1)),
 vO 14 (.mov (.t 0)),
 vO 15 (.lenStr (.t 14)),
 vO 16 (.bin .lss (.t 13) (.t 15)),
 vO 17 (.mov (.t 16)),
 vG 18 17 true (.mov (.t 0)),
 vG 19 17 true (.mov (.t 1)),
 vG 20 17 true (.indexStr (.t 18) (.t 19)),
 vG 21 17 true (.call 70 [(.t 20)]),
 vG 22 17 true (.not (.t 21)),
 vO 23 (.pick (.t 17) (.t 22) (.c (.bool false))),
 vO 24 (.mov (.t 23)),
 vG 25 24 true (.mov (.t 0)),
 vG 26 24 true (.mov (.t 1)),
 vG 27 24 true (.indexStr (.t 25) (.t 26)),
 vG 28 24 true (.bin .neq (.t 27) (.c (.int .u8 61))),
 vO 29 (.pick (.t 24) (.t 28) (.c (.bool false))),
 vO 30 (.mov (.t 29)),
 vG 31 30 true (.mov (.t 0)),
 vG 32 30 true (.mov (.t 1)),
 vG 33 30 true (.indexStr (.t 31) (.t 32)),
 vG 34 30 true (.bin .neq (.t 33) (.c (.int .u8 63))),
 vO 35 (.pick (.t 30) (.t 34) (.c (.bool false))),
 vO 36 (.mov (.t 35)),
 vG 37 36 true (.mov (.t 0)),
 vG 38 36 true (.mov (.t 1)),
 vG 39 36 true (.indexStr (.t 37) (.t 38)),
 vG 40 36 true (.bin .neq (.t 39) (.c (.int .u8 39))),
 vO 41 (.pick (.t 36) (.t 40) (.c (.bool false)))]
def v71_4 : VCode := (.keep [0, 1, 4, 7] (.weak .skip))
def v71_5 : VCode := (.keep [0, 1, 4, 7] (.weak (.exit 0)))
def v71_6 : VCode := (.cond (.t 41) v71_4 v71_5)
def v71_7 : VCode := (.seq (.region false r71_3) (.keep [0, 1, 4, 7, 41] (.weak v71_6)))
def r71_8 : List VOper := [
 vO 42 (.mov (.t 1)),
 vO 43 (.bin .add (.t 42) (.c (.int .i64 1))),
 vO 1 (.mov (.t 43))]
def v71_9 : VCode := (.post [0, 1, 4, 7] (.region false r71_8))
def v71_10 : VCode := (.block 1 v71_9)
def v71_11 : VCode := (.seq v71_7 v71_10)
def v71_12 : VCode := (.loop [0, 1, 4, 7] v71_11)
def v71_13 : VCode := (.keep [0, 1, 4, 7] (.weak v71_12))
def v71_14 : VCode := (.block 0 v71_13)
def r71_15 : List VOper := [
 vO 44 (.mov (.t 0)),
 vO 45 (.mov (.t 7)),
 vO 46 (.mov (.t 1)),
 vO 47 (.slStr (.t 44) (some (.t 45)) (some (.t 46))),
 vO 48 (.build [.str [], .str [], .bool false] [(0, 1, (.t 47))]),
 vO 8 (.alloc (some 3) (.agg [.str [], .str [], .bool false])),
 { dst := none, op := .store (some 3) (.t 8) (.t 48) }]
def r71_16 : List VOper := [
 vO 49 (.mov (.t 1)),
 vO 50 (.mov (.t 0)),
 vO 51 (.lenStr (.t 50)),
 vO 52 (.bin .lss (.t 49) (.t 51)),
 vO 53 (.mov (.t 52)),
 vG 54 53 true (.mov (.t 0)),
 vG 55 53 true (.mov (.t 1)),
 vG 56 53 true (.indexStr (.t 54) (.t 55)),
 vG 57 53 true (.bin .eql (.t 56) (.c (.int .u8 63))),
 vO 58 (.pick (.t 53) (.t 57) (.c (.bool false))),
 vO 59 (.mov (.t 58)),
 vG 60 59 true (.mov (.t 0)),
 vG 61 59 true (.mov (.t 1)),
 vG 62 59 true (.bin .add (.t 61) (.c (.int .i64 1))),
 vG 63 59 true (.call 97 [(.t 60), (.t 62)]),
 vO 64 (.pick (.t 59) (.t 63) (.c (.bool false)))]
def r71_17 : List VOper := [
 vO 65 (.fieldAddr 2 (.t 8)),
 { dst := none, op := .store none (.t 65) (.c (.bool true)) }]
def r71_18 : List VOper := [
 vO 66 (.load (some 3) (.t 8)),
 vO 67 (.mov (.t 1)),
 vO 68 (.bin .add (.t 67) (.c (.int .i64 1))),
 { dst := none, op := .store (some 3) (.t 4) (.t 66) },
 vO 5 (.mov (.t 68)),
 vO 6 (.mov (.c (.int .i64 0)))]
def v71_19 : VCode := (.seq (.region false r71_18) (.keep [4, 5, 6] (.weak .ret)))
def v71_20 : VCode := (.seq (.region false r71_17) (.keep [1, 4, 8] (.weak v71_19)))
def v71_21 : VCode := (.keep [0, 1, 4, 8] (.weak .skip))
def v71_22 : VCode := (.cond (.t 64) v71_20 v71_21)
def v71_23 : VCode := (.seq (.region false r71_16) (.keep [0, 1, 4, 8, 64] (.weak v71_22)))
def r71_24 : List VOper := [
 vO 69 (.mov (.t 1)),
 vO 70 (.mov (.t 0)),
 vO 71 (.lenStr (.t 70)),
 vO 72 (.bin .eql (.t 69) (.t 71)),
 vO 73 (.mov (.t 72)),
 vG 74 73 false (.mov (.t 0)),
 vG 75 73 false (.mov (.t 1)),
 vG 76 73 false (.indexStr (.t 74) (.t 75)),
 vG 77 73 false (.bin .neq (.t 76) (.c (.int .u8 61))),
 vO 78 (.pick (.t 73) (.c (.bool true)) (.t 77))]
def r71_25 : List VOper := [
 vO 79 (.load (some 3) (.t 8)),
 vO 80 (.mov (.t 1)),
 { dst := none, op := .store (some 3) (.t 4) (.t 79) },
 vO 5 (.mov (.t 80)),
 vO 6 (.mov (.c (.int .i64 2)))]
def v71_26 : VCode := (.seq (.region false r71_25) (.keep [4, 5, 6] (.weak .ret)))
def v71_27 : VCode := (.keep [0, 1, 4, 8] (.weak .skip))
def v71_28 : VCode := (.cond (.t 78) v71_26 v71_27)
def v71_29 : VCode := (.seq (.region false r71_24) (.keep [0, 1, 4, 8, 78] (.weak v71_28)))
def r71_30 : List VOper := [
 vO 81 (.mov (.t 1)),
 vO 82 (.bin .add (.t 81) (.c (.int .i64 1))),
 vO 1 (.mov (.t 82))]
def r71_31 : List VOper := [
 vO 83 (.mov (.t 1)),
 vO 84 (.mov (.t 0)),
 vO 85 (.lenStr (.t 84)),
 vO 86 (.bin .lss (.t 83) (.t 85)),
 vO 87 (.mov (.t 86)),
 vG 88 87 true (.mov (.t 0)),
 vG 89 87 true (.mov (.t 1)),
 vG 90 87 true (.indexStr (.t 88) (.t 89)),
 vG 91 87 true (.bin .eql (.t 90) (.c (.int .u8 39))),
 vO 92 (.pick (.t 87) (.t 91) (.c (.bool false)))]
def r71_32 : List VOper := [
 vO 94 (.mov (.t 0)),
 vO 95 (.mov (.t 1)),
 vO 96 (.bin .add (.t 95) (.c (.int .i64 1))),
 vO 97 (.call 98 [(.t 94), (.t 96)]),
 vO 93 (.mov (.t 97)),
 vO 98 (.extract (.t 93) 0),
 vO 99 (.extract (.t 93) 1),
 vO 100 (.extract (.t 93) 2),
 vO 9 (.mov (.t 98)),
 vO 10 (.mov (.t 99)),
 vO 11 (.mov (.t 100))]
def r71_33 : List VOper := [
 vO 101 (.mov (.t 11)),
 vO 102 (.bin .eql (.t 101) (.c (.int .i64 0))),
 vO 103 (.mov (.t 102)),
 vG 104 103 true (.mov (.t 0)),
 vG 105 103 true (.mov (.t 10)),
 vG 106 103 true (.call 97 [(.t 104), (.t 105)]),
 vG 107 103 true (.not (.t 106)),
 vO 108 (.pick (.t 103) (.t 107) (.c (.bool false)))]
def r71_34 : List VOper := [
 vO 11 (.mov (.c (.int .i64 2)))]
def v71_35 : VCode := (.post [4, 8, 9, 10, 11] (.region false r71_34))
def v71_36 : VCode := (.keep [4, 8, 9, 10, 11] (.weak .skip))
def v71_37 : VCode := (.cond (.t 108) v71_35 v71_36)
def v71_38 : VCode := (.seq (.region false r71_33) (.keep [4, 8, 9, 10, 11, 108] (.weak v71_37)))
def r71_39 : List VOper := [
 vO 109 (.mov (.t 9)),
 vO 110 (.fieldAddr 1 (.t 8)),
 { dst := none, op := .store none (.t 110) (.t 109) }]
def r71_40 : List VOper := [
 vO 111 (.load (some 3) (.t 8)),
 vO 112 (.mov (.t 10)),
 vO 113 (.mov (.t 11)),
 { dst := none, op := .store (some 3) (.t 4) (.t 111) },
 vO 5 (.mov (.t 112)),
 vO 6 (.mov (.t 113))]
def v71_41 : VCode := (.seq (.region false r71_40) (.keep [4, 5, 6] (.weak .ret)))
def v71_42 : VCode := (.seq (.region false r71_39) (.keep [4, 8, 10, 11] (.weak v71_41)))
def v71_43 : VCode := (.seq v71_38 v71_42)
def v71_44 : VCode := (.seq (.region false r71_32) (.keep [0, 4, 8, 9, 10, 11] (.weak v71_43)))
def v71_45 : VCode := (.keep [0, 1, 4, 8] (.weak .skip))
def v71_46 : VCode := (.cond (.t 92) v71_44 v71_45)
def v71_47 : VCode := (.seq (.region false r71_31) (.keep [0, 1, 4, 8, 92] (.weak v71_46)))
def r71_48 : List VOper := [
 vO 114 (.mov (.t 1)),
 vO 7 (.mov (.t 114))]
def r71_49 : List VOper := [
 vO 115 (.mov (.t 0)),
 vO 116 (.mov (.t 1)),
 vO 117 (.call 97 [(.t 115), (.t 116)]),
 vO 118 (.not (.t 117))]
def v71_50 : VCode := (.keep [0, 1, 4, 7, 8] (.weak .skip))
def v71_51 : VCode := (.keep [0, 1, 4, 7, 8] (.weak (.exit 2)))
def v71_52 : VCode := (.cond (.t 118) v71_50 v71_51)
def v71_53 : VCode := (.seq (.region false r71_49) (.keep [0, 1, 4, 7, 8, 118] (.weak v71_52)))
def r71_54 : List VOper := [
 vO 119 (.mov (.t 0)),
 vO 120 (.mov (.t 1)),
 vO 121 (.indexStr (.t 119) (.t 120)),
 vO 122 (.bin .eql (.t 121) (.c (.int .u8 39)))]
def r71_55 : List VOper := [
 vO 123 (.load (some 3) (.t 8)),
 vO 124 (.mov (.t 1)),
 { dst := none, op := .store (some 3) (.t 4) (.t 123) },
 vO 5 (.mov (.t 124)),
 vO 6 (.mov (.c (.int .i64 2)))]
def v71_56 : VCode := (.seq (.region false r71_55) (.keep [4, 5, 6] (.weak .ret)))
def v71_57 : VCode := (.keep [0, 1, 4, 7, 8] (.weak .skip))
def v71_58 : VCode := (.cond (.t 122) v71_56 v71_57)
def v71_59 : VCode := (.seq (.region false r71_54) (.keep [0, 1, 4, 7, 8, 122] (.weak v71_58)))
def r71_60 : List VOper := [
 vO 125 (.mov (.t 1)),
 vO 126 (.bin .add (.t 125) (.c (.int .i64 1))),
 vO 1 (.mov (.t 126))]
def v71_61 : VCode := (.post [0, 1, 4, 7, 8] (.region false r71_60))
def v71_62 : VCode := (.seq v71_59 v71_61)
def v71_63 : VCode := (.block 3 v71_62)
def v71_64 : VCode := (.seq v71_53 v71_63)
def v71_65 : VCode := (.loop [0, 1, 4, 7, 8] v71_64)
def v71_66 : VCode := (.keep [0, 1, 4, 7, 8] (.weak v71_65))
def v71_67 : VCode := (.block 2 v71_66)
def r71_68 : List VOper := [
 vO 127 (.mov (.t 0)),
 vO 128 (.mov (.t 7)),
 vO 129 (.mov (.t 1)),
 vO 130 (.slStr (.t 127) (some (.t 128)) (some (.t 129))),
 vO 131 (.fieldAddr 1 (.t 8)),
 { dst := none, op := .store none (.t 131) (.t 130) }]
def r71_69 : List VOper := [
 vO 132 (.load (some 3) (.t 8)),
 vO 133 (.mov (.t 1)),
 { dst := none, op := .store (some 3) (.t 4) (.t 132) },
 vO 5 (.mov (.t 133)),
 vO 6 (.mov (.c (.int .i64 0)))]
def v71_70 : VCode := (.seq (.region false r71_69) (.keep [4, 5, 6] (.weak .ret)))
def v71_71 : VCode := (.seq (.region false r71_68) (.keep [1, 4, 8] (.weak v71_70)))
def v71_72 : VCode := (.seq v71_67 v71_71)
def v71_73 : VCode := (.seq (.region false r71_48) (.keep [0, 1, 4, 7, 8] (.weak v71_72)))
def v71_74 : VCode := (.seq v71_47 v71_73)
def v71_75 : VCode := (.seq (.region false r71_30) (.keep [0, 1, 4, 8] (.weak v71_74)))
def v71_76 : VCode := (.seq v71_29 v71_75)
def v71_77 : VCode := (.seq v71_23 v71_76)
def v71_78 : VCode := (.seq (.region false r71_15) (.keep [0, 1, 4, 8] (.weak v71_77)))
def v71_79 : VCode := (.seq v71_14 v71_78)
def v71_80 : VCode := (.seq (.region false r71_2) (.keep [0, 1, 4, 7] (.weak v71_79)))
def v71 : VCode := (.seq (.region false r71_1) (.keep [0, 1, 4] (.weak v71_80)))
theorem hv71 : codeOf Tryd.prog Tryd.f71.ntmps v71 (Tryd.f71.body.getD .skip) = some v71 := by kernel_rfl
theorem ok71 {ds : List PV} {r : PV} {fl : Bool} (h : vwp Tryd.prog v71 (retQ [(4, some (some 3)), (5, none), (6, none)] r fl) (initSt ds)) : CallOK Tryd.prog 71 ds r fl :=
  fn_ok Tryd.func71 rfl (by decide) hv71 rfl mixed h

/- ref22_Secret -/
def r108_1 : List VOper := [
 vO 2 (.mov (.c (.bool false)))]
def r108_2 : List VOper := [
 vO 3 (.mov (.t 0)),
 vO 4 (.lenStr (.t 3)),
 vO 5 (.bin .gtr (.t 4) (.c (.int .i64 0))),
 vO 6 (.mov (.t 5)),
 vG 7 6 true (.mov (.t 0)),
 vG 8 6 true (.indexStr (.t 7) (.c (.int .i64 0))),
 vG 9 6 true (.bin .eql (.t 8) (.c (.int .u8 33))),
 vO 10 (.pick (.t 6) (.t 9) (.c (.bool false))),
 vO 2 (.mov (.t 10))]
def v108_3 : VCode := (.seq (.region false r108_2) (.keep [2] (.weak .ret)))
def v108 : VCode := (.seq (.region false r108_1) (.keep [0] (.weak v108_3)))
theorem hv108 : codeOf Tryd.prog Tryd.f108.ntmps v108 (Tryd.f108.body.getD .skip) = some v108 := by kernel_rfl
theorem ok108 {ds : List PV} {r : PV} {fl : Bool} (h : vwp Tryd.prog v108 (retQ [(2, none)] r fl) (initSt ds)) : CallOK Tryd.prog 108 ds r fl :=
  fn_ok Tryd.func108 rfl (by decide) hv108 rfl mixed h

/- ref22_Name -/
def r86_1 : List VOper := [
 vO 2 (.mov (.c (.bool false)))]
def r86_2 : List VOper := [
 vO 5 (.mov (.t 0)),
 vO 6 (.call 108 [(.t 5)])]
def r86_3 : List VOper := [
 vO 7 (.mov (.t 0)),
 vO 8 (.slStr (.t 7) (some (.c (.int .i64 1))) none),
 vO 0 (.mov (.t 8))]
def v86_4 : VCode := (.post [0] (.region false r86_3))
def v86_5 : VCode := (.keep [0] (.weak .skip))
def v86_6 : VCode := (.cond (.t 6) v86_4 v86_5)
def v86_7 : VCode := (.seq (.region false r86_2) (.keep [0, 6] (.weak v86_6)))
def r86_8 : List VOper := [
 vO 3 (.mov (.c (.int .i64 0)))]
def r86_9 : List VOper := [
 vO 9 (.mov (.t 3)),
 vO 10 (.mov (.t 0)),
 vO 11 (.lenStr (.t 10)),
 vO 12 (.bin .lss (.t 9) (.t 11))]
def v86_10 : VCode := (.keep [0, 3] (.weak .skip))
def v86_11 : VCode := (.keep [0] (.weak (.exit 0)))
def v86_12 : VCode := (.cond (.t 12) v86_10 v86_11)
def v86_13 : VCode := (.seq (.region false r86_9) (.keep [0, 3, 12] (.weak v86_12)))
def r86_14 : List VOper := [
 vO 15 (.mov (.t 0)),
 vO 16 (.mov (.t 3)),
 vO 17 (.indexStr (.t 15) (.t 16)),
 vO 18 (.bin .geq (.t 17) (.c (.int .u8 97))),
 vO 19 (.mov (.t 18)),
 vG 20 19 true (.mov (.t 0)),
 vG 21 19 true (.mov (.t 3)),
 vG 22 19 true (.indexStr (.t 20) (.t 21)),
 vG 23 19 true (.bin .leq (.t 22) (.c (.int .u8 122))),
 vO 24 (.pick (.t 19) (.t 23) (.c (.bool false))),
 vO 4 (.mov (.t 24))]
def r86_15 : List VOper := [
 vO 25 (.mov (.t 4)),
 vO 26 (.not (.t 25)),
 vO 27 (.mov (.t 26)),
 vG 28 27 true (.mov (.t 3)),
 vG 29 27 true (.bin .eql (.t 28) (.c (.int .i64 0))),
 vG 30 27 true (.mov (.t 29)),
 vG 31 30 false (.mov (.t 0)),
 vG 32 30 false (.mov (.t 3)),
 vG 33 30 false (.indexStr (.t 31) (.t 32)),
 vG 34 30 false (.bin .geq (.t 33) (.c (.int .u8 48))),
 vG 35 30 false (.mov (.t 34)),
 vG 36 35 true (.mov (.t 0)),
 vG 37 35 true (.mov (.t 3)),
 vG 38 35 true (.indexStr (.t 36) (.t 37)),
 vG 39 35 true (.bin .leq (.t 38) (.c (.int .u8 57))),
 vG 40 30 false (.pick (.t 35) (.t 39) (.c (.bool false))),
 vG 41 30 false (.mov (.t 40)),
 vG 42 41 false (.mov (.t 0)),
 vG 43 41 false (.mov (.t 3)),
 vG 44 41 false (.indexStr (.t 42) (.t 43)),
 vG 45 41 false (.bin .eql (.t 44) (.c (.int .u8 45))),
 vG 46 30 false (.pick (.t 41) (.c (.bool true)) (.t 45)),
 vG 47 30 false (.mov (.t 46)),
 vG 48 47 false (.mov (.t 0)),
 vG 49 47 false (.mov (.t 3)),
 vG 50 47 false (.indexStr (.t 48) (.t 49)),
 vG 51 47 false (.bin .eql (.t 50) (.c (.int .u8 95))),
 vG 52 30 false (.pick (.t 47) (.c (.bool true)) (.t 51)),
 vG 53 30 false (.not (.t 52)),
 vG 54 27 true (.pick (.t 30) (.c (.bool true)) (.t 53)),
 vO 55 (.pick (.t 27) (.t 54) (.c (.bool false)))]
def r86_16 : List VOper := [
 vO 2 (.mov (.c (.bool false)))]
def v86_17 : VCode := (.seq (.region false r86_16) (.keep [2] (.weak .ret)))
def v86_18 : VCode := (.keep [0, 3] (.weak .skip))
def v86_19 : VCode := (.cond (.t 55) v86_17 v86_18)
def v86_20 : VCode := (.seq (.region false r86_15) (.keep [0, 3, 55] (.weak v86_19)))
def v86_21 : VCode := (.seq (.region false r86_14) (.keep [0, 3, 4] (.weak v86_20)))
def v86_22 : VCode := (.block 1 v86_21)
def r86_23 : List VOper := [
 vO 13 (.mov (.t 3)),
 vO 14 (.bin .add (.t 13) (.c (.int .i64 1))),
 vO 3 (.mov (.t 14))]
def v86_24 : VCode := (.post [0, 3] (.region false r86_23))
def v86_25 : VCode := (.seq v86_22 v86_24)
def v86_26 : VCode := (.seq v86_13 v86_25)
def v86_27 : VCode := (.loop [0, 3] v86_26)
def v86_28 : VCode := (.keep [0, 3] (.weak v86_27))
def v86_29 : VCode := (.block 0 v86_28)
def v86_30 : VCode := (.seq (.region false r86_8) (.keep [0, 3] (.weak v86_29)))
def r86_31 : List VOper := [
 vO 56 (.mov (.t 0)),
 vO 57 (.lenStr (.t 56)),
 vO 58 (.bin .geq (.t 57) (.c (.int .i64 1))),
 vO 59 (.mov (.t 58)),
 vG 60 59 true (.mov (.t 0)),
 vG 61 59 true (.lenStr (.t 60)),
 vG 62 59 true (.bin .leq (.t 61) (.c (.int .i64 32))),
 vO 63 (.pick (.t 59) (.t 62) (.c (.bool false))),
 vO 2 (.mov (.t 63))]
def v86_32 : VCode := (.seq (.region false r86_31) (.keep [2] (.weak .ret)))
def v86_33 : VCode := (.seq v86_30 v86_32)
def v86_34 : VCode := (.seq v86_7 v86_33)
def v86 : VCode := (.seq (.region false r86_1) (.keep [0] (.weak v86_34)))
theorem hv86 : codeOf Tryd.prog Tryd.f86.ntmps v86 (Tryd.f86.body.getD .skip) = some v86 := by kernel_rfl
theorem ok86 {ds : List PV} {r : PV} {fl : Bool} (h : vwp Tryd.prog v86 (retQ [(2, none)] r fl) (initSt ds)) : CallOK Tryd.prog 86 ds r fl :=
  fn_ok Tryd.func86 rfl (by decide) hv86 rfl mixed h

/- ref22_plain -/
def r87_1 : List VOper := [
 vO 2 (.mov (.c (.bool false)))]
def r87_2 : List VOper := [
 vO 3 (.mov (.c (.int .i64 0)))]
def r87_3 : List VOper := [
 vO 4 (.mov (.t 3)),
 vO 5 (.mov (.t 0)),
 vO 6 (.lenStr (.t 5)),
 vO 7 (.bin .lss (.t 4) (.t 6))]
def v87_4 : VCode := (.keep [0, 3] (.weak .skip))
def v87_5 : VCode := (.keep [] (.weak (.exit 0)))
def v87_6 : VCode := (.cond (.t 7) v87_4 v87_5)
def v87_7 : VCode := (.seq (.region false r87_3) (.keep [0, 3, 7] (.weak v87_6)))
def r87_8 : List VOper := [
 vO 10 (.mov (.t 0)),
 vO 11 (.mov (.t 3)),
 vO 12 (.indexStr (.t 10) (.t 11)),
 vO 13 (.bin .eql (.t 12) (.c (.int .u8 0))),
 vO 14 (.mov (.t 13)),
 vG 15 14 false (.mov (.t 0)),
 vG 16 14 false (.mov (.t 3)),
 vG 17 14 false (.indexStr (.t 15) (.t 16)),
 vG 18 14 false (.bin .eql (.t 17) (.c (.int .u8 10))),
 vO 19 (.pick (.t 14) (.c (.bool true)) (.t 18)),
 vO 20 (.mov (.t 19)),
 vG 21 20 false (.mov (.t 0)),
 vG 22 20 false (.mov (.t 3)),
 vG 23 20 false (.indexStr (.t 21) (.t 22)),
 vG 24 20 false (.bin .eql (.t 23) (.c (.int .u8 13))),
 vO 25 (.pick (.t 20) (.c (.bool true)) (.t 24))]
def r87_9 : List VOper := [
 vO 2 (.mov (.c (.bool false)))]
def v87_10 : VCode := (.seq (.region false r87_9) (.keep [2] (.weak .ret)))
def v87_11 : VCode := (.keep [0, 3] (.weak .skip))
def v87_12 : VCode := (.cond (.t 25) v87_10 v87_11)
def v87_13 : VCode := (.seq (.region false r87_8) (.keep [0, 3, 25] (.weak v87_12)))
def v87_14 : VCode := (.block 1 v87_13)
def r87_15 : List VOper := [
 vO 8 (.mov (.t 3)),
 vO 9 (.bin .add (.t 8) (.c (.int .i64 1))),
 vO 3 (.mov (.t 9))]
def v87_16 : VCode := (.post [0, 3] (.region false r87_15))
def v87_17 : VCode := (.seq v87_14 v87_16)
def v87_18 : VCode := (.seq v87_7 v87_17)
def v87_19 : VCode := (.loop [0, 3] v87_18)
def v87_20 : VCode := (.keep [0, 3] (.weak v87_19))
def v87_21 : VCode := (.block 0 v87_20)
def v87_22 : VCode := (.seq (.region false r87_2) (.keep [0, 3] (.weak v87_21)))
def r87_23 : List VOper := [
 vO 2 (.mov (.c (.bool true)))]
def v87_24 : VCode := (.seq (.region false r87_23) (.keep [2] (.weak .ret)))
def v87_25 : VCode := (.seq v87_22 v87_24)
def v87 : VCode := (.seq (.region false r87_1) (.keep [0] (.weak v87_25)))
theorem hv87 : codeOf Tryd.prog Tryd.f87.ntmps v87 (Tryd.f87.body.getD .skip) = some v87 := by kernel_rfl
theorem ok87 {ds : List PV} {r : PV} {fl : Bool} (h : vwp Tryd.prog v87 (retQ [(2, none)] r fl) (initSt ds)) : CallOK Tryd.prog 87 ds r fl :=
  fn_ok Tryd.func87 rfl (by decide) hv87 rfl mixed h

/- ref22_one -/
def r61_1 : List VOper := [
 vO 3 (.box (some 3) (.t 1)),
 vO 4 (.mov (.c (.int .i64 0)))]
def r61_2 : List VOper := [
 vO 7 (.mov (.t 0)),
 vO 8 (.lenSl (.t 7)),
 vO 9 (.bin .geq (.t 8) (.c (.int .i64 32))),
 vO 6 (.mov (.t 9))]
def r61_3 : List VOper := [
 vO 4 (.mov (.c (.int .i64 22)))]
def v61_4 : VCode := (.seq (.region false r61_3) (.keep [4] (.weak .ret)))
def r61_5 : List VOper := [
 vO 11 (.fieldAddr 0 (.t 3)),
 vO 12 (.load none (.t 11)),
 vO 13 (.call 86 [(.t 12)]),
 vO 14 (.not (.t 13)),
 vO 10 (.mov (.t 14))]
def r61_6 : List VOper := [
 vO 4 (.mov (.c (.int .i64 6)))]
def v61_7 : VCode := (.seq (.region false r61_6) (.keep [4] (.weak .ret)))
def r61_8 : List VOper := [
 vO 16 (.fieldAddr 2 (.t 3)),
 vO 17 (.load none (.t 16)),
 vO 18 (.mov (.t 17)),
 vG 19 18 true (.fieldAddr 1 (.t 3)),
 vG 20 18 true (.load none (.t 19)),
 vG 21 18 true (.bin .neq (.t 20) (.c (.str []))),
 vO 22 (.pick (.t 18) (.t 21) (.c (.bool false))),
 vO 23 (.mov (.t 22)),
 vG 24 23 false (.fieldAddr 1 (.t 3)),
 vG 25 23 false (.load none (.t 24)),
 vG 26 23 false (.call 87 [(.t 25)]),
 vG 27 23 false (.not (.t 26)),
 vO 28 (.pick (.t 23) (.c (.bool true)) (.t 27)),
 vO 15 (.mov (.t 28))]
def r61_9 : List VOper := [
 vO 4 (.mov (.c (.int .i64 2)))]
def v61_10 : VCode := (.seq (.region false r61_9) (.keep [4] (.weak .ret)))
def r61_11 : List VOper := [
 vO 30 (.fieldAddr 1 (.t 3)),
 vO 31 (.load none (.t 30)),
 vO 32 (.lenStr (.t 31)),
 vO 33 (.bin .gtr (.t 32) (.c (.int .i64 1024))),
 vO 29 (.mov (.t 33))]
def r61_12 : List VOper := [
 vO 4 (.mov (.c (.int .i64 4)))]
def v61_13 : VCode := (.seq (.region false r61_12) (.keep [4] (.weak .ret)))
def v61_14 : VCode := (.keep [0, 3] (.weak .skip))
def v61_15 : VCode := (.cond (.t 29) v61_13 v61_14)
def v61_16 : VCode := (.seq (.region false r61_11) (.keep [0, 3, 29] (.weak v61_15)))
def v61_17 : VCode := (.cond (.t 15) v61_10 v61_16)
def v61_18 : VCode := (.seq (.region false r61_8) (.keep [0, 3, 15] (.weak v61_17)))
def v61_19 : VCode := (.cond (.t 10) v61_7 v61_18)
def v61_20 : VCode := (.seq (.region false r61_5) (.keep [0, 3, 10] (.weak v61_19)))
def v61_21 : VCode := (.cond (.t 6) v61_4 v61_20)
def v61_22 : VCode := (.seq (.region false r61_2) (.keep [0, 3, 6] (.weak v61_21)))
def v61_23 : VCode := (.block 0 v61_22)
def r61_24 : List VOper := [
 vO 5 (.mov (.c (.int .i64 0)))]
def r61_25 : List VOper := [
 vO 34 (.mov (.t 5)),
 vO 35 (.mov (.t 0)),
 vO 36 (.lenSl (.t 35)),
 vO 37 (.bin .lss (.t 34) (.t 36))]
def v61_26 : VCode := (.keep [0, 3, 5] (.weak .skip))
def v61_27 : VCode := (.keep [] (.weak (.exit 1)))
def v61_28 : VCode := (.cond (.t 37) v61_26 v61_27)
def v61_29 : VCode := (.seq (.region false r61_25) (.keep [0, 3, 5, 37] (.weak v61_28)))
def r61_30 : List VOper := [
 vO 40 (.mov (.t 0)),
 vO 41 (.mov (.t 5)),
 { dst := some 42, op := .indexAddr (some 3) (.t 40) (.t 41), bef := [0, 1] },
 { dst := some 43, op := .fieldAddr 0 (.t 42), bef := [0, 1, 2] },
 { dst := some 44, op := .load none (.t 43), bef := [0, 1, 2, 3] },
 vO 45 (.fieldAddr 0 (.t 3)),
 { dst := some 46, op := .load none (.t 45), bef := [5] },
 { dst := some 47, op := .bin .eql (.t 44) (.t 46), bef := [0, 1, 2, 3, 4, 5, 6] }]
def r61_31 : List VOper := [
 vO 4 (.mov (.c (.int .i64 7)))]
def v61_32 : VCode := (.seq (.region false r61_31) (.keep [4] (.weak .ret)))
def v61_33 : VCode := (.keep [0, 3, 5] (.weak .skip))
def v61_34 : VCode := (.cond (.t 47) v61_32 v61_33)
def v61_35 : VCode := (.seq (.region true r61_30) (.keep [0, 3, 5, 47] (.weak v61_34)))
def v61_36 : VCode := (.block 2 v61_35)
def r61_37 : List VOper := [
 vO 38 (.mov (.t 5)),
 vO 39 (.bin .add (.t 38) (.c (.int .i64 1))),
 vO 5 (.mov (.t 39))]
def v61_38 : VCode := (.post [0, 3, 5] (.region false r61_37))
def v61_39 : VCode := (.seq v61_36 v61_38)
def v61_40 : VCode := (.seq v61_29 v61_39)
def v61_41 : VCode := (.loop [0, 3, 5] v61_40)
def v61_42 : VCode := (.keep [0, 3, 5] (.weak v61_41))
def v61_43 : VCode := (.block 1 v61_42)
def v61_44 : VCode := (.seq (.region false r61_24) (.keep [0, 3, 5] (.weak v61_43)))
def r61_45 : List VOper := [
 vO 4 (.mov (.c (.int .i64 0)))]
def v61_46 : VCode := (.seq (.region false r61_45) (.keep [4] (.weak .ret)))
def v61_47 : VCode := (.seq v61_44 v61_46)
def v61_48 : VCode := (.seq v61_23 v61_47)
def v61 : VCode := (.seq (.region false r61_1) (.keep [0, 3] (.weak v61_48)))
theorem hv61 : codeOf Tryd.prog Tryd.f61.ntmps v61 (Tryd.f61.body.getD .skip) = some v61 := by kernel_rfl
theorem ok61 {ds : List PV} {r : PV} {fl : Bool} (h : vwp Tryd.prog v61 (retQ [(4, none)] r fl) (initSt ds)) : CallOK Tryd.prog 61 ds r fl :=
  fn_ok Tryd.func61 rfl (by decide) hv61 rfl mixed h

/- ref22_Parse -/
def r39_1 : List VOper := [
 vO 2 (.mov (.c (.nilsl))),
 vO 3 (.mov (.c (.int .i64 0))),
 vO 4 (.mov (.c (.int .i64 0)))]
def r39_2 : List VOper := [
 vO 5 (.mov (.c (.nilsl)))]
def r39_3 : List VOper := [
 vO 6 (.mov (.c (.int .i64 0)))]
def r39_4 : List VOper := [
 vO 10 (.mov (.t 6)),
 vO 11 (.mov (.t 0)),
 vO 12 (.lenStr (.t 11)),
 vO 13 (.bin .lss (.t 10) (.t 12)),
 vO 14 (.mov (.t 13)),
 vG 15 14 true (.mov (.t 0)),
 vG 16 14 true (.mov (.t 6)),
 vG 17 14 true (.indexStr (.t 15) (.t 16)),
 vG 18 14 true (.call 70 [(.t 17)]),
 vO 19 (.pick (.t 14) (.t 18) (.c (.bool false)))]
def v39_5 : VCode := (.keep [0, 5, 6] (.weak .skip))
def v39_6 : VCode := (.keep [0, 5, 6] (.weak (.exit 2)))
def v39_7 : VCode := (.cond (.t 19) v39_5 v39_6)
def v39_8 : VCode := (.seq (.region false r39_4) (.keep [0, 5, 6, 19] (.weak v39_7)))
def r39_9 : List VOper := [
 vO 20 (.mov (.t 6)),
 vO 21 (.bin .add (.t 20) (.c (.int .i64 1))),
 vO 6 (.mov (.t 21))]
def v39_10 : VCode := (.post [0, 5, 6] (.region false r39_9))
def v39_11 : VCode := (.block 3 v39_10)
def v39_12 : VCode := (.seq v39_8 v39_11)
def v39_13 : VCode := (.loop [0, 5, 6] v39_12)
def v39_14 : VCode := (.keep [0, 5, 6] (.weak v39_13))
def v39_15 : VCode := (.block 2 v39_14)
def r39_16 : List VOper := [
 vO 22 (.mov (.t 6)),
 vO 23 (.mov (.t 0)),
 vO 24 (.lenStr (.t 23)),
 vO 25 (.bin .eql (.t 22) (.t 24))]
def r39_17 : List VOper := [
 vO 26 (.mov (.t 5)),
 vO 2 (.mov (.t 26)),
 vO 3 (.mov (.c (.int .i64 0))),
 vO 4 (.mov (.c (.int .i64 0)))]
def v39_18 : VCode := (.seq (.region false r39_17) (.keep [2, 3, 4] (.weak .ret)))
def v39_19 : VCode := (.keep [0, 5, 6] (.weak .skip))
def v39_20 : VCode := (.cond (.t 25) v39_18 v39_19)
def v39_21 : VCode := (.seq (.region false r39_16) (.keep [0, 5, 6, 25] (.weak v39_20)))
def r39_22 : List VOper := [
 vO 28 (.mov (.t 0)),
 vO 29 (.mov (.t 6)),
 vO 30 (.call 71 [(.t 28), (.t 29)]),
 vO 27 (.mov (.t 30)),
 vO 31 (.extract (.t 27) 0),
 vO 32 (.extract (.t 27) 1),
 vO 33 (.extract (.t 27) 2),
 vO 7 (.alloc (some 3) (.agg [.str [], .str [], .bool false])),
 { dst := none, op := .store (some 3) (.t 7) (.t 31) },
 vO 8 (.mov (.t 32)),
 vO 9 (.mov (.t 33))]
def r39_23 : List VOper := [
 vO 34 (.mov (.t 9)),
 vO 35 (.bin .eql (.t 34) (.c (.int .i64 0)))]
def r39_24 : List VOper := [
 vO 36 (.mov (.t 5)),
 vO 37 (.load (some 3) (.t 7)),
 vO 38 (.call 61 [(.t 36), (.t 37)]),
 vO 9 (.mov (.t 38))]
def v39_25 : VCode := (.post [0, 5, 6, 7, 8, 9] (.region false r39_24))
def v39_26 : VCode := (.keep [0, 5, 6, 7, 8, 9] (.weak .skip))
def v39_27 : VCode := (.cond (.t 35) v39_25 v39_26)
def v39_28 : VCode := (.seq (.region false r39_23) (.keep [0, 5, 6, 7, 8, 9, 35] (.weak v39_27)))
def r39_29 : List VOper := [
 vO 39 (.mov (.t 9)),
 vO 40 (.bin .neq (.t 39) (.c (.int .i64 0)))]
def r39_30 : List VOper := [
 vO 41 (.mov (.t 6)),
 vO 42 (.mov (.t 9)),
 vO 2 (.mov (.c (.nilsl))),
 vO 3 (.mov (.t 41)),
 vO 4 (.mov (.t 42))]
def v39_31 : VCode := (.seq (.region false r39_30) (.keep [2, 3, 4] (.weak .ret)))
def v39_32 : VCode := (.keep [0, 5, 7, 8] (.weak .skip))
def v39_33 : VCode := (.cond (.t 40) v39_31 v39_32)
def v39_34 : VCode := (.seq (.region false r39_29) (.keep [0, 5, 6, 7, 8, 9, 40] (.weak v39_33)))
def r39_35 : List VOper := [
 vO 43 (.mov (.t 5)),
 vO 44 (.load (some 3) (.t 7)),
 vO 45 (.buildSlice (some 3) (.agg [.str [], .str [], .bool false]) 1 [(0, (.t 44))]),
 vO 46 (.append (some 3) 40 (.t 43) (.t 45)),
 vO 5 (.mov (.t 46))]
def r39_36 : List VOper := [
 vO 47 (.mov (.t 8)),
 vO 6 (.mov (.t 47))]
def v39_37 : VCode := (.post [0, 5, 6] (.region false r39_36))
def v39_38 : VCode := (.seq (.region false r39_35) (.keep [0, 5, 8] (.weak v39_37)))
def v39_39 : VCode := (.seq v39_34 v39_38)
def v39_40 : VCode := (.seq v39_28 v39_39)
def v39_41 : VCode := (.seq (.region false r39_22) (.keep [0, 5, 6, 7, 8, 9] (.weak v39_40)))
def v39_42 : VCode := (.seq v39_21 v39_41)
def v39_43 : VCode := (.seq v39_15 v39_42)
def v39_44 : VCode := (.block 1 v39_43)
def v39_45 : VCode := (.loop [0, 5, 6] v39_44)
def v39_46 : VCode := (.keep [0, 5, 6] (.weak v39_45))
def v39_47 : VCode := (.block 0 v39_46)
def v39_48 : VCode := (.seq (.region false r39_3) (.keep [0, 5, 6] (.weak v39_47)))
def v39_49 : VCode := (.seq (.region false r39_2) (.keep [0, 5] (.weak v39_48)))
def v39 : VCode := (.seq (.region false r39_1) (.keep [0] (.weak v39_49)))
theorem hv39 : codeOf Tryd.prog Tryd.f39.ntmps v39 (Tryd.f39.body.getD .skip) = some v39 := by kernel_rfl
theorem ok39 {ds : List PV} {r : PV} {fl : Bool} (h : vwp Tryd.prog v39 (retQ [(2, none), (3, none), (4, none)] r fl) (initSt ds)) : CallOK Tryd.prog 39 ds r fl :=
  fn_ok Tryd.func39 rfl (by decide) hv39 rfl mixed h

/- ref27_asks -/
def r40_1 : List VOper := [
 vO 2 (.mov (.c (.bool false)))]
def r40_2 : List VOper := [
 vO 3 (.mov (.c (.int .i64 0)))]
def r40_3 : List VOper := [
 vO 4 (.mov (.t 3)),
 vO 5 (.mov (.t 0)),
 vO 6 (.lenSl (.t 5)),
 vO 7 (.bin .lss (.t 4) (.t 6))]
def v40_4 : VCode := (.keep [0, 3] (.weak .skip))
def v40_5 : VCode := (.keep [] (.weak (.exit 0)))
def v40_6 : VCode := (.cond (.t 7) v40_4 v40_5)
def v40_7 : VCode := (.seq (.region false r40_3) (.keep [0, 3, 7] (.weak v40_6)))
def r40_8 : List VOper := [
 vO 10 (.mov (.t 0)),
 vO 11 (.mov (.t 3)),
 vO 12 (.indexAddr (some 3) (.t 10) (.t 11)),
 vO 13 (.fieldAddr 2 (.t 12)),
 vO 14 (.load none (.t 13))]
def r40_9 : List VOper := [
 vO 2 (.mov (.c (.bool true)))]
def v40_10 : VCode := (.seq (.region false r40_9) (.keep [2] (.weak .ret)))
def v40_11 : VCode := (.keep [0, 3] (.weak .skip))
def v40_12 : VCode := (.cond (.t 14) v40_10 v40_11)
def v40_13 : VCode := (.seq (.region false r40_8) (.keep [0, 3, 14] (.weak v40_12)))
def v40_14 : VCode := (.block 1 v40_13)
def r40_15 : List VOper := [
 vO 8 (.mov (.t 3)),
 vO 9 (.bin .add (.t 8) (.c (.int .i64 1))),
 vO 3 (.mov (.t 9))]
def v40_16 : VCode := (.post [0, 3] (.region false r40_15))
def v40_17 : VCode := (.seq v40_14 v40_16)
def v40_18 : VCode := (.seq v40_7 v40_17)
def v40_19 : VCode := (.loop [0, 3] v40_18)
def v40_20 : VCode := (.keep [0, 3] (.weak v40_19))
def v40_21 : VCode := (.block 0 v40_20)
def v40_22 : VCode := (.seq (.region false r40_2) (.keep [0, 3] (.weak v40_21)))
def r40_23 : List VOper := [
 vO 2 (.mov (.c (.bool false)))]
def v40_24 : VCode := (.seq (.region false r40_23) (.keep [2] (.weak .ret)))
def v40_25 : VCode := (.seq v40_22 v40_24)
def v40 : VCode := (.seq (.region false r40_1) (.keep [0] (.weak v40_25)))
theorem hv40 : codeOf Tryd.prog Tryd.f40.ntmps v40 (Tryd.f40.body.getD .skip) = some v40 := by kernel_rfl
theorem ok40 {ds : List PV} {r : PV} {fl : Bool} (h : vwp Tryd.prog v40 (retQ [(2, none)] r fl) (initSt ds)) : CallOK Tryd.prog 40 ds r fl :=
  fn_ok Tryd.func40 rfl (by decide) hv40 rfl mixed h

/- ref22_Check -/
def r30_1 : List VOper := [
 vO 2 (.mov (.c (.int .i64 0)))]
def r30_2 : List VOper := [
 vO 3 (.mov (.c (.int .i64 0)))]
def r30_3 : List VOper := [
 vO 5 (.mov (.t 3)),
 vO 6 (.mov (.t 0)),
 vO 7 (.lenSl (.t 6)),
 vO 8 (.bin .lss (.t 5) (.t 7))]
def v30_4 : VCode := (.keep [0, 3] (.weak .skip))
def v30_5 : VCode := (.keep [] (.weak (.exit 0)))
def v30_6 : VCode := (.cond (.t 8) v30_4 v30_5)
def v30_7 : VCode := (.seq (.region false r30_3) (.keep [0, 3, 8] (.weak v30_6)))
def r30_8 : List VOper := [
 vO 11 (.mov (.t 0)),
 vO 12 (.mov (.t 3)),
 { dst := some 13, op := .slSl (some 3) (.t 11) none (some (.t 12)), bef := [0, 1] },
 vO 14 (.mov (.t 0)),
 vO 15 (.mov (.t 3)),
 { dst := some 16, op := .indexAddr (some 3) (.t 14) (.t 15), bef := [3, 4] },
 { dst := some 17, op := .load (some 3) (.t 16), bef := [3, 4, 5] },
 { dst := some 18, op := .call 61 [(.t 13), (.t 17)], bef := [0, 1, 2, 3, 4, 5, 6] },
 { dst := some 4, op := .mov (.t 18), bef := [0, 1, 2, 3, 4, 5, 6, 7] }]
def r30_9 : List VOper := [
 vO 19 (.mov (.t 4)),
 vO 20 (.bin .neq (.t 19) (.c (.int .i64 0)))]
def r30_10 : List VOper := [
 vO 21 (.mov (.t 4)),
 vO 2 (.mov (.t 21))]
def v30_11 : VCode := (.seq (.region false r30_10) (.keep [2] (.weak .ret)))
def v30_12 : VCode := (.keep [0, 3] (.weak .skip))
def v30_13 : VCode := (.cond (.t 20) v30_11 v30_12)
def v30_14 : VCode := (.seq (.region false r30_9) (.keep [0, 3, 4, 20] (.weak v30_13)))
def v30_15 : VCode := (.seq (.region true r30_8) (.keep [0, 3, 4] (.weak v30_14)))
def v30_16 : VCode := (.block 1 v30_15)
def r30_17 : List VOper := [
 vO 9 (.mov (.t 3)),
 vO 10 (.bin .add (.t 9) (.c (.int .i64 1))),
 vO 3 (.mov (.t 10))]
def v30_18 : VCode := (.post [0, 3] (.region false r30_17))
def v30_19 : VCode := (.seq v30_16 v30_18)
def v30_20 : VCode := (.seq v30_7 v30_19)
def v30_21 : VCode := (.loop [0, 3] v30_20)
def v30_22 : VCode := (.keep [0, 3] (.weak v30_21))
def v30_23 : VCode := (.block 0 v30_22)
def v30_24 : VCode := (.seq (.region false r30_2) (.keep [0, 3] (.weak v30_23)))
def r30_25 : List VOper := [
 vO 2 (.mov (.c (.int .i64 0)))]
def v30_26 : VCode := (.seq (.region false r30_25) (.keep [2] (.weak .ret)))
def v30_27 : VCode := (.seq v30_24 v30_26)
def v30 : VCode := (.seq (.region false r30_1) (.keep [0] (.weak v30_27)))
theorem hv30 : codeOf Tryd.prog Tryd.f30.ntmps v30 (Tryd.f30.body.getD .skip) = some v30 := by kernel_rfl
theorem ok30 {ds : List PV} {r : PV} {fl : Bool} (h : vwp Tryd.prog v30 (retQ [(2, none)] r fl) (initSt ds)) : CallOK Tryd.prog 30 ds r fl :=
  fn_ok Tryd.func30 rfl (by decide) hv30 rfl mixed h

/- ref27_Db -/
def r17_1 : List VOper := [
 vO 2 (.mov (.c (.nilsl))),
 vO 3 (.mov (.c (.int .i64 0))),
 vO 4 (.mov (.c (.int .i64 0)))]
def r17_2 : List VOper := [
 vO 5 (.mov (.c (.nilsl)))]
def r17_3 : List VOper := [
 vO 14 (.mov (.t 0)),
 vO 15 (.call 37 [(.t 14)]),
 vO 6 (.mov (.t 15))]
def r17_4 : List VOper := [
 vO 7 (.mov (.c (.int .i64 0)))]
def r17_5 : List VOper := [
 vO 16 (.mov (.t 7)),
 vO 17 (.mov (.t 6)),
 vO 18 (.lenSl (.t 17)),
 vO 19 (.bin .lss (.t 16) (.t 18))]
def v17_6 : VCode := (.keep [5, 6, 7] (.weak .skip))
def v17_7 : VCode := (.keep [5] (.weak (.exit 0)))
def v17_8 : VCode := (.cond (.t 19) v17_6 v17_7)
def v17_9 : VCode := (.seq (.region false r17_5) (.keep [5, 6, 7, 19] (.weak v17_8)))
def r17_10 : List VOper := [
 vO 22 (.mov (.t 6)),
 vO 23 (.mov (.t 7)),
 vO 24 (.indexAddr none (.t 22) (.t 23)),
 vO 25 (.load none (.t 24)),
 vO 26 (.call 38 [(.t 25)])]
def v17_11 : VCode := (.keep [5, 6, 7] (.weak (.exit 1)))
def v17_12 : VCode := (.keep [5, 6, 7] (.weak .skip))
def v17_13 : VCode := (.cond (.t 26) v17_11 v17_12)
def v17_14 : VCode := (.seq (.region false r17_10) (.keep [5, 6, 7, 26] (.weak v17_13)))
def r17_15 : List VOper := [
 vO 27 (.mov (.t 5)),
 vO 28 (.lenSl (.t 27)),
 vO 8 (.mov (.t 28))]
def r17_16 : List VOper := [
 vO 29 (.mov (.t 6)),
 vO 30 (.mov (.t 7)),
 vO 31 (.indexAddr none (.t 29) (.t 30)),
 vO 32 (.load none (.t 31)),
 vO 33 (.indexStr (.t 32) (.c (.int .i64 0))),
 vO 34 (.bin .eql (.t 33) (.c (.int .u8 32))),
 vO 35 (.mov (.t 34)),
 vG 36 35 false (.mov (.t 6)),
 vG 37 35 false (.mov (.t 7)),
 vG 38 35 false (.indexAddr none (.t 36) (.t 37)),
 vG 39 35 false (.load none (.t 38)),
 vG 40 35 false (.indexStr (.t 39) (.c (.int .i64 0))),
 vG 41 35 false (.bin .eql (.t 40) (.c (.int .u8 9))),
 vO 42 (.pick (.t 35) (.c (.bool true)) (.t 41))]
def r17_17 : List VOper := [
 vO 43 (.mov (.t 8)),
 vO 44 (.bin .eql (.t 43) (.c (.int .i64 0)))]
def r17_18 : List VOper := [
 vO 45 (.mov (.t 7)),
 vO 2 (.mov (.c (.nilsl))),
 vO 3 (.mov (.t 45)),
 vO 4 (.mov (.c (.int .i64 2)))]
def v17_19 : VCode := (.seq (.region false r17_18) (.keep [2, 3, 4] (.weak .ret)))
def v17_20 : VCode := (.keep [5, 6, 7, 8] (.weak .skip))
def v17_21 : VCode := (.cond (.t 44) v17_19 v17_20)
def v17_22 : VCode := (.seq (.region false r17_17) (.keep [5, 6, 7, 8, 44] (.weak v17_21)))
def r17_23 : List VOper := [
 vO 46 (.mov (.t 8)),
 vO 47 (.bin .sub (.t 46) (.c (.int .i64 1))),
 vO 8 (.mov (.t 47))]
def v17_24 : VCode := (.post [5, 6, 7, 8] (.region false r17_23))
def v17_25 : VCode := (.seq v17_22 v17_24)
def v17_26 : VCode := (.keep [5, 6, 7, 8] (.weak .skip))
def v17_27 : VCode := (.cond (.t 42) v17_25 v17_26)
def v17_28 : VCode := (.seq (.region false r17_16) (.keep [5, 6, 7, 8, 42] (.weak v17_27)))
def r17_29 : List VOper := [
 vO 48 (.mov (.t 8)),
 vO 49 (.bin .geq (.t 48) (.c (.int .i64 256)))]
def r17_30 : List VOper := [
 vO 50 (.mov (.t 7)),
 vO 2 (.mov (.c (.nilsl))),
 vO 3 (.mov (.t 50)),
 vO 4 (.mov (.c (.int .i64 22)))]
def v17_31 : VCode := (.seq (.region false r17_30) (.keep [2, 3, 4] (.weak .ret)))
def v17_32 : VCode := (.keep [5, 6, 7, 8] (.weak .skip))
def v17_33 : VCode := (.cond (.t 49) v17_31 v17_32)
def v17_34 : VCode := (.seq (.region false r17_29) (.keep [5, 6, 7, 8, 49] (.weak v17_33)))
def r17_35 : List VOper := [
 vO 52 (.mov (.t 6)),
 vO 53 (.mov (.t 7)),
 vO 54 (.indexAddr none (.t 52) (.t 53)),
 vO 55 (.load none (.t 54)),
 vO 56 (.call 39 [(.t 55)]),
 vO 51 (.mov (.t 56)),
 vO 57 (.extract (.t 51) 0),
 vO 58 (.extract (.t 51) 1),
 vO 59 (.extract (.t 51) 2),
 vO 9 (.mov (.t 57)),
 vO 10 (.mov (.t 58)),
 vO 11 (.mov (.t 59))]
def r17_36 : List VOper := [
 vO 60 (.mov (.t 11)),
 vO 61 (.bin .neq (.t 60) (.c (.int .i64 0)))]
def r17_37 : List VOper := [
 vO 62 (.mov (.t 7)),
 vO 63 (.mov (.t 11)),
 vO 2 (.mov (.c (.nilsl))),
 vO 3 (.mov (.t 62)),
 vO 4 (.mov (.t 63))]
def v17_38 : VCode := (.seq (.region false r17_37) (.keep [2, 3, 4] (.weak .ret)))
def v17_39 : VCode := (.keep [5, 6, 7, 8, 9] (.weak .skip))
def v17_40 : VCode := (.cond (.t 61) v17_38 v17_39)
def v17_41 : VCode := (.seq (.region false r17_36) (.keep [5, 6, 7, 8, 9, 11, 61] (.weak v17_40)))
def r17_42 : List VOper := [
 vO 64 (.mov (.t 9)),
 vO 65 (.call 40 [(.t 64)])]
def r17_43 : List VOper := [
 vO 66 (.mov (.t 7)),
 vO 2 (.mov (.c (.nilsl))),
 vO 3 (.mov (.t 66)),
 vO 4 (.mov (.c (.int .i64 2)))]
def v17_44 : VCode := (.seq (.region false r17_43) (.keep [2, 3, 4] (.weak .ret)))
def v17_45 : VCode := (.keep [5, 6, 7, 8, 9] (.weak .skip))
def v17_46 : VCode := (.cond (.t 65) v17_44 v17_45)
def v17_47 : VCode := (.seq (.region false r17_42) (.keep [5, 6, 7, 8, 9, 65] (.weak v17_46)))
def r17_48 : List VOper := [
 vO 12 (.mov (.c (.nilsl)))]
def r17_49 : List VOper := [
 vO 67 (.mov (.t 8)),
 vO 68 (.mov (.t 5)),
 vO 69 (.lenSl (.t 68)),
 vO 70 (.bin .lss (.t 67) (.t 69))]
def r17_50 : List VOper := [
 vO 71 (.mov (.t 12)),
 vO 72 (.mov (.t 5)),
 vO 73 (.mov (.t 8)),
 vO 74 (.indexAddr (some 1) (.t 72) (.t 73)),
 vO 75 (.fieldAddr 0 (.t 74)),
 vO 76 (.load none (.t 75)),
 vO 77 (.append (some 3) 40 (.t 71) (.t 76)),
 vO 12 (.mov (.t 77))]
def v17_51 : VCode := (.post [5, 6, 7, 8, 9, 12] (.region false r17_50))
def v17_52 : VCode := (.keep [5, 6, 7, 8, 9, 12] (.weak .skip))
def v17_53 : VCode := (.cond (.t 70) v17_51 v17_52)
def v17_54 : VCode := (.seq (.region false r17_49) (.keep [5, 6, 7, 8, 9, 12, 70] (.weak v17_53)))
def r17_55 : List VOper := [
 vO 78 (.mov (.t 12)),
 vO 79 (.mov (.t 9)),
 vO 80 (.append (some 3) 40 (.t 78) (.t 79)),
 vO 12 (.mov (.t 80))]
def r17_56 : List VOper := [
 vO 81 (.mov (.t 12)),
 vO 82 (.call 30 [(.t 81)]),
 vO 13 (.mov (.t 82))]
def r17_57 : List VOper := [
 vO 83 (.mov (.t 13)),
 vO 84 (.bin .neq (.t 83) (.c (.int .i64 0)))]
def r17_58 : List VOper := [
 vO 85 (.mov (.t 7)),
 vO 86 (.mov (.t 13)),
 vO 2 (.mov (.c (.nilsl))),
 vO 3 (.mov (.t 85)),
 vO 4 (.mov (.t 86))]
def v17_59 : VCode := (.seq (.region false r17_58) (.keep [2, 3, 4] (.weak .ret)))
def v17_60 : VCode := (.keep [5, 6, 7, 8, 12] (.weak .skip))
def v17_61 : VCode := (.cond (.t 84) v17_59 v17_60)
def v17_62 : VCode := (.seq (.region false r17_57) (.keep [5, 6, 7, 8, 12, 13, 84] (.weak v17_61)))
def v17_63 : VCode := (.seq (.region false r17_56) (.keep [5, 6, 7, 8, 12, 13] (.weak v17_62)))
def r17_64 : List VOper := [
 vO 87 (.mov (.t 5)),
 vO 88 (.mov (.t 8)),
 vO 89 (.slSl (some 1) (.t 87) none (some (.t 88))),
 vO 90 (.mov (.t 12)),
 vO 91 (.build [.usl (some 3) []] [(0, 1, (.t 90))]),
 vO 92 (.buildSlice (some 1) (.agg [.usl (some 3) []]) 1 [(0, (.t 91))]),
 vO 93 (.append (some 1) 24 (.t 89) (.t 92)),
 vO 5 (.mov (.t 93))]
def v17_65 : VCode := (.post [5, 6, 7] (.region false r17_64))
def v17_66 : VCode := (.seq v17_63 v17_65)
def v17_67 : VCode := (.seq (.region false r17_55) (.keep [5, 6, 7, 8, 12] (.weak v17_66)))
def v17_68 : VCode := (.seq v17_54 v17_67)
def v17_69 : VCode := (.seq (.region false r17_48) (.keep [5, 6, 7, 8, 9, 12] (.weak v17_68)))
def v17_70 : VCode := (.seq v17_47 v17_69)
def v17_71 : VCode := (.seq v17_41 v17_70)
def v17_72 : VCode := (.seq (.region false r17_35) (.keep [5, 6, 7, 8, 9, 11] (.weak v17_71)))
def v17_73 : VCode := (.seq v17_34 v17_72)
def v17_74 : VCode := (.seq v17_28 v17_73)
def v17_75 : VCode := (.seq (.region false r17_15) (.keep [5, 6, 7, 8] (.weak v17_74)))
def v17_76 : VCode := (.seq v17_14 v17_75)
def v17_77 : VCode := (.block 1 v17_76)
def r17_78 : List VOper := [
 vO 20 (.mov (.t 7)),
 vO 21 (.bin .add (.t 20) (.c (.int .i64 1))),
 vO 7 (.mov (.t 21))]
def v17_79 : VCode := (.post [5, 6, 7] (.region false r17_78))
def v17_80 : VCode := (.seq v17_77 v17_79)
def v17_81 : VCode := (.seq v17_9 v17_80)
def v17_82 : VCode := (.loop [5, 6, 7] v17_81)
def v17_83 : VCode := (.keep [5, 6, 7] (.weak v17_82))
def v17_84 : VCode := (.block 0 v17_83)
def v17_85 : VCode := (.seq (.region false r17_4) (.keep [5, 6, 7] (.weak v17_84)))
def r17_86 : List VOper := [
 vO 94 (.mov (.t 5)),
 vO 2 (.mov (.t 94)),
 vO 3 (.mov (.c (.int .i64 0))),
 vO 4 (.mov (.c (.int .i64 0)))]
def v17_87 : VCode := (.seq (.region false r17_86) (.keep [2, 3, 4] (.weak .ret)))
def v17_88 : VCode := (.seq v17_85 v17_87)
def v17_89 : VCode := (.seq (.region false r17_3) (.keep [5, 6] (.weak v17_88)))
def v17_90 : VCode := (.seq (.region false r17_2) (.keep [0, 5] (.weak v17_89)))
def v17 : VCode := (.seq (.region false r17_1) (.keep [0] (.weak v17_90)))
theorem hv17 : codeOf Tryd.prog Tryd.f17.ntmps v17 (Tryd.f17.body.getD .skip) = some v17 := by kernel_rfl
theorem ok17 {ds : List PV} {r : PV} {fl : Bool} (h : vwp Tryd.prog v17 (retQ [(2, none), (3, none), (4, none)] r fl) (initSt ds)) : CallOK Tryd.prog 17 ds r fl :=
  fn_ok Tryd.func17 rfl (by decide) hv17 rfl mixed h

/- ref22_Same -/
def r41_1 : List VOper := [
 vO 4 (.mov (.c (.bool false)))]
def r41_2 : List VOper := [
 vO 6 (.mov (.t 0)),
 vO 7 (.lenSl (.t 6)),
 vO 8 (.mov (.t 1)),
 vO 9 (.lenSl (.t 8)),
 vO 10 (.bin .neq (.t 7) (.t 9))]
def r41_3 : List VOper := [
 vO 4 (.mov (.c (.bool false)))]
def v41_4 : VCode := (.seq (.region false r41_3) (.keep [4] (.weak .ret)))
def v41_5 : VCode := (.keep [0, 1] (.weak .skip))
def v41_6 : VCode := (.cond (.t 10) v41_4 v41_5)
def v41_7 : VCode := (.seq (.region false r41_2) (.keep [0, 1, 10] (.weak v41_6)))
def r41_8 : List VOper := [
 vO 5 (.mov (.c (.int .i64 0)))]
def r41_9 : List VOper := [
 vO 11 (.mov (.t 5)),
 vO 12 (.mov (.t 0)),
 vO 13 (.lenSl (.t 12)),
 vO 14 (.bin .lss (.t 11) (.t 13))]
def v41_10 : VCode := (.keep [0, 1, 5] (.weak .skip))
def v41_11 : VCode := (.keep [] (.weak (.exit 0)))
def v41_12 : VCode := (.cond (.t 14) v41_10 v41_11)
def v41_13 : VCode := (.seq (.region false r41_9) (.keep [0, 1, 5, 14] (.weak v41_12)))
def r41_14 : List VOper := [
 vO 17 (.mov (.t 0)),
 vO 18 (.mov (.t 5)),
 { dst := some 19, op := .indexAddr (some 3) (.t 17) (.t 18), bef := [0, 1] },
 { dst := some 20, op := .load (some 3) (.t 19), bef := [0, 1, 2] },
 vO 21 (.mov (.t 1)),
 vO 22 (.mov (.t 5)),
 { dst := some 23, op := .indexAddr (some 3) (.t 21) (.t 22), bef := [4, 5] },
 { dst := some 24, op := .load (some 3) (.t 23), bef := [4, 5, 6] },
 { dst := some 25, op := .aeq true [2, 2, 0] (.t 20) (.t 24), bef := [0, 1, 2, 3, 4, 5, 6, 7] }]
def r41_15 : List VOper := [
 vO 4 (.mov (.c (.bool false)))]
def v41_16 : VCode := (.seq (.region false r41_15) (.keep [4] (.weak .ret)))
def v41_17 : VCode := (.keep [0, 1, 5] (.weak .skip))
def v41_18 : VCode := (.cond (.t 25) v41_16 v41_17)
def v41_19 : VCode := (.seq (.region true r41_14) (.keep [0, 1, 5, 25] (.weak v41_18)))
def v41_20 : VCode := (.block 1 v41_19)
def r41_21 : List VOper := [
 vO 15 (.mov (.t 5)),
 vO 16 (.bin .add (.t 15) (.c (.int .i64 1))),
 vO 5 (.mov (.t 16))]
def v41_22 : VCode := (.post [0, 1, 5] (.region false r41_21))
def v41_23 : VCode := (.seq v41_20 v41_22)
def v41_24 : VCode := (.seq v41_13 v41_23)
def v41_25 : VCode := (.loop [0, 1, 5] v41_24)
def v41_26 : VCode := (.keep [0, 1, 5] (.weak v41_25))
def v41_27 : VCode := (.block 0 v41_26)
def v41_28 : VCode := (.seq (.region false r41_8) (.keep [0, 1, 5] (.weak v41_27)))
def r41_29 : List VOper := [
 vO 4 (.mov (.c (.bool true)))]
def v41_30 : VCode := (.seq (.region false r41_29) (.keep [4] (.weak .ret)))
def v41_31 : VCode := (.seq v41_28 v41_30)
def v41_32 : VCode := (.seq v41_7 v41_31)
def v41 : VCode := (.seq (.region false r41_1) (.keep [0, 1] (.weak v41_32)))
theorem hv41 : codeOf Tryd.prog Tryd.f41.ntmps v41 (Tryd.f41.body.getD .skip) = some v41 := by kernel_rfl
theorem ok41 {ds : List PV} {r : PV} {fl : Bool} (h : vwp Tryd.prog v41 (retQ [(4, none)] r fl) (initSt ds)) : CallOK Tryd.prog 41 ds r fl :=
  fn_ok Tryd.func41 rfl (by decide) hv41 rfl mixed h

/- ref27_Same -/
def r18_1 : List VOper := [
 vO 4 (.mov (.c (.bool false)))]
def r18_2 : List VOper := [
 vO 6 (.mov (.t 0)),
 vO 7 (.lenSl (.t 6)),
 vO 8 (.mov (.t 1)),
 vO 9 (.lenSl (.t 8)),
 vO 10 (.bin .neq (.t 7) (.t 9))]
def r18_3 : List VOper := [
 vO 4 (.mov (.c (.bool false)))]
def v18_4 : VCode := (.seq (.region false r18_3) (.keep [4] (.weak .ret)))
def v18_5 : VCode := (.keep [0, 1] (.weak .skip))
def v18_6 : VCode := (.cond (.t 10) v18_4 v18_5)
def v18_7 : VCode := (.seq (.region false r18_2) (.keep [0, 1, 10] (.weak v18_6)))
def r18_8 : List VOper := [
 vO 5 (.mov (.c (.int .i64 0)))]
def r18_9 : List VOper := [
 vO 11 (.mov (.t 5)),
 vO 12 (.mov (.t 0)),
 vO 13 (.lenSl (.t 12)),
 vO 14 (.bin .lss (.t 11) (.t 13))]
def v18_10 : VCode := (.keep [0, 1, 5] (.weak .skip))
def v18_11 : VCode := (.keep [] (.weak (.exit 0)))
def v18_12 : VCode := (.cond (.t 14) v18_10 v18_11)
def v18_13 : VCode := (.seq (.region false r18_9) (.keep [0, 1, 5, 14] (.weak v18_12)))
def r18_14 : List VOper := [
 vO 17 (.mov (.t 0)),
 vO 18 (.mov (.t 5)),
 { dst := some 19, op := .indexAddr (some 1) (.t 17) (.t 18), bef := [0, 1] },
 { dst := some 20, op := .fieldAddr 0 (.t 19), bef := [0, 1, 2] },
 { dst := some 21, op := .load none (.t 20), bef := [0, 1, 2, 3] },
 vO 22 (.mov (.t 1)),
 vO 23 (.mov (.t 5)),
 { dst := some 24, op := .indexAddr (some 1) (.t 22) (.t 23), bef := [5, 6] },
 { dst := some 25, op := .fieldAddr 0 (.t 24), bef := [5, 6, 7] },
 { dst := some 26, op := .load none (.t 25), bef := [5, 6, 7, 8] },
 { dst := some 27, op := .call 41 [(.t 21), (.t 26)], bef := [0, 1, 2, 3, 4, 5, 6, 7, 8, 9] },
 { dst := some 28, op := .not (.t 27), bef := [0, 1, 2, 3, 4, 5, 6, 7, 8, 9, 10] }]
def r18_15 : List VOper := [
 vO 4 (.mov (.c (.bool false)))]
def v18_16 : VCode := (.seq (.region false r18_15) (.keep [4] (.weak .ret)))
def v18_17 : VCode := (.keep [0, 1, 5] (.weak .skip))
def v18_18 : VCode := (.cond (.t 28) v18_16 v18_17)
def v18_19 : VCode := (.seq (.region true r18_14) (.keep [0, 1, 5, 28] (.weak v18_18)))
def v18_20 : VCode := (.block 1 v18_19)
def r18_21 : List VOper := [
 vO 15 (.mov (.t 5)),
 vO 16 (.bin .add (.t 15) (.c (.int .i64 1))),
 vO 5 (.mov (.t 16))]
def v18_22 : VCode := (.post [0, 1, 5] (.region false r18_21))
def v18_23 : VCode := (.seq v18_20 v18_22)
def v18_24 : VCode := (.seq v18_13 v18_23)
def v18_25 : VCode := (.loop [0, 1, 5] v18_24)
def v18_26 : VCode := (.keep [0, 1, 5] (.weak v18_25))
def v18_27 : VCode := (.block 0 v18_26)
def v18_28 : VCode := (.seq (.region false r18_8) (.keep [0, 1, 5] (.weak v18_27)))
def r18_29 : List VOper := [
 vO 4 (.mov (.c (.bool true)))]
def v18_30 : VCode := (.seq (.region false r18_29) (.keep [4] (.weak .ret)))
def v18_31 : VCode := (.seq v18_28 v18_30)
def v18_32 : VCode := (.seq v18_7 v18_31)
def v18 : VCode := (.seq (.region false r18_1) (.keep [0, 1] (.weak v18_32)))
theorem hv18 : codeOf Tryd.prog Tryd.f18.ntmps v18 (Tryd.f18.body.getD .skip) = some v18 := by kernel_rfl
theorem ok18 {ds : List PV} {r : PV} {fl : Bool} (h : vwp Tryd.prog v18 (retQ [(4, none)] r fl) (initSt ds)) : CallOK Tryd.prog 18 ds r fl :=
  fn_ok Tryd.func18 rfl (by decide) hv18 rfl mixed h

/- law27_DialReads -/
def r4_1 : List VOper := [
 vO 2 (.mov (.c (.bool false)))]
def r4_2 : List VOper := [
 vO 9 (.mov (.t 0)),
 vO 10 (.lenStr (.t 9)),
 vO 11 (.bin .gtr (.t 10) (.c (.int .i64 4000)))]
def r4_3 : List VOper := [
 vO 12 (.call 11 []),
 vO 2 (.mov (.t 12))]
def v4_4 : VCode := (.seq (.region false r4_3) (.keep [2] (.weak .ret)))
def v4_5 : VCode := (.keep [0] (.weak .skip))
def v4_6 : VCode := (.cond (.t 11) v4_4 v4_5)
def v4_7 : VCode := (.seq (.region false r4_2) (.keep [0, 11] (.weak v4_6)))
def r4_8 : List VOper := [
 vO 14 (.mov (.t 0)),
 vO 15 (.call 16 [(.t 14)]),
 vO 13 (.mov (.t 15)),
 vO 16 (.extract (.t 13) 0),
 vO 17 (.extract (.t 13) 1),
 vO 18 (.extract (.t 13) 2),
 vO 3 (.mov (.t 16)),
 vO 4 (.mov (.t 17)),
 vO 5 (.mov (.t 18))]
def r4_9 : List VOper := [
 vO 20 (.mov (.t 0)),
 vO 21 (.call 17 [(.t 20)]),
 vO 19 (.mov (.t 21)),
 vO 22 (.extract (.t 19) 0),
 vO 23 (.extract (.t 19) 1),
 vO 24 (.extract (.t 19) 2),
 vO 6 (.mov (.t 22)),
 vO 7 (.mov (.t 23)),
 vO 8 (.mov (.t 24))]
def r4_10 : List VOper := [
 vO 25 (.mov (.t 3)),
 vO 26 (.mov (.t 6)),
 vO 27 (.call 18 [(.t 25), (.t 26)]),
 vO 28 (.mov (.t 27)),
 vG 29 28 true (.mov (.t 4)),
 vG 30 28 true (.mov (.t 7)),
 vG 31 28 true (.bin .eql (.t 29) (.t 30)),
 vO 32 (.pick (.t 28) (.t 31) (.c (.bool false))),
 vO 33 (.mov (.t 32)),
 vG 34 33 true (.mov (.t 5)),
 vG 35 33 true (.mov (.t 8)),
 vG 36 33 true (.bin .eql (.t 34) (.t 35)),
 vO 37 (.pick (.t 33) (.t 36) (.c (.bool false))),
 vO 38 (.mov (.t 37)),
 vG 39 38 true (.call 11 []),
 vO 40 (.pick (.t 38) (.t 39) (.c (.bool false))),
 vO 2 (.mov (.t 40))]
def v4_11 : VCode := (.seq (.region false r4_10) (.keep [2] (.weak .ret)))
def v4_12 : VCode := (.seq (.region false r4_9) (.keep [3, 4, 5, 6, 7, 8] (.weak v4_11)))
def v4_13 : VCode := (.seq (.region false r4_8) (.keep [0, 3, 4, 5] (.weak v4_12)))
def v4_14 : VCode := (.seq v4_7 v4_13)
def v4 : VCode := (.seq (.region false r4_1) (.keep [0] (.weak v4_14)))
theorem hv4 : codeOf Tryd.prog Tryd.f4.ntmps v4 (Tryd.f4.body.getD .skip) = some v4 := by kernel_rfl
theorem ok4 {ds : List PV} {r : PV} {fl : Bool} (h : vwp Tryd.prog v4 (retQ [(2, none)] r fl) (initSt ds)) : CallOK Tryd.prog 4 ds r fl :=
  fn_ok Tryd.func4 rfl (by decide) hv4 rfl mixed h

end Go.Proofs.YtphblddgbbgdnaaDoor
