/- The machine's code of the functions of this translation, printed by a program of the claim's author. -/
import Derived.Test.YtfaobpifaobobaaDoorVmX
import Derived.Test.YtfaobpifaobobaaDoorChecked
import Derived.KernelRfl
namespace Go.Proofs.YtfaobpifaobobaaDoor
open Go.Vm
set_option autoImplicit false
set_option linter.unusedVariables false
set_option linter.unusedSimpArgs false
set_option maxRecDepth 100000

theorem mixed : Tryd.prog.follows .mixedOrders = true := by kernel_rfl

/- user_Valid -/
def r23_1 : List VOper := [
 vO 2 (.mov (.c (.bool false)))]
def r23_2 : List VOper := [
 vO 7 (.mov (.t 0)),
 vO 8 (.bin .eql (.t 7) (.c (.str []))),
 vO 9 (.mov (.t 8)),
 vG 10 9 false (.mov (.t 0)),
 vG 11 9 false (.lenStr (.t 10)),
 vG 12 9 false (.bin .gtr (.t 11) (.c (.int .i64 32))),
 vO 13 (.pick (.t 9) (.c (.bool true)) (.t 12))]
def r23_3 : List VOper := [
 vO 2 (.mov (.c (.bool false)))]
def v23_4 : VCode := (.seq (.region false r23_3) (.keep [2] (.weak .ret)))
def v23_5 : VCode := (.keep [0] (.weak .skip))
def v23_6 : VCode := (.cond (.t 13) v23_4 v23_5)
def v23_7 : VCode := (.seq (.region false r23_2) (.keep [0, 13] (.weak v23_6)))
def r23_8 : List VOper := [
 vO 14 (.mov (.t 0)),
 vO 15 (.lenStr (.t 14)),
 vO 16 (.mov (.c (.int .i64 0)))]
def r23_9 : List VOper := [
 vO 17 (.bin .lss (.t 16) (.t 15))]
def v23_10 : VCode := (.keep [0, 15, 16] (.weak .skip))
def v23_11 : VCode := (.keep [] (.weak (.exit 0)))
def v23_12 : VCode := (.cond (.t 17) v23_10 v23_11)
def r23_13 : List VOper := [
 vO 18 (.mov (.t 16)),
 vO 3 (.mov (.t 18))]
def r23_14 : List VOper := [
 vO 19 (.mov (.t 0)),
 vO 20 (.mov (.t 3)),
 vO 21 (.indexStr (.t 19) (.t 20)),
 vO 4 (.mov (.t 21))]
def r23_15 : List VOper := [
 vO 22 (.mov (.t 4)),
 vO 23 (.bin .geq (.t 22) (.c (.int .u8 97))),
 vO 24 (.mov (.t 23)),
 vG 25 24 true (.mov (.t 4)),
 vG 26 24 true (.bin .leq (.t 25) (.c (.int .u8 122))),
 vO 27 (.pick (.t 24) (.t 26) (.c (.bool false))),
 vO 5 (.mov (.t 27))]
def r23_16 : List VOper := [
 vO 28 (.mov (.t 4)),
 vO 29 (.bin .geq (.t 28) (.c (.int .u8 48))),
 vO 30 (.mov (.t 29)),
 vG 31 30 true (.mov (.t 4)),
 vG 32 30 true (.bin .leq (.t 31) (.c (.int .u8 57))),
 vO 33 (.pick (.t 30) (.t 32) (.c (.bool false))),
 vO 34 (.mov (.t 33)),
 vG 35 34 false (.mov (.t 4)),
 vG 36 34 false (.bin .eql (.t 35) (.c (.int .u8 45))),
 vO 37 (.pick (.t 34) (.c (.bool true)) (.t 36)),
 vO 38 (.mov (.t 37)),
 vG 39 38 false (.mov (.t 4)),
 vG 40 38 false (.bin .eql (.t 39) (.c (.int .u8 95))),
 vO 41 (.pick (.t 38) (.c (.bool true)) (.t 40)),
 vO 6 (.mov (.t 41))]
def r23_17 : List VOper := [
 vO 42 (.mov (.t 5)),
 vO 43 (.not (.t 42)),
 vO 44 (.mov (.t 43)),
 vG 45 44 true (.mov (.t 3)),
 vG 46 44 true (.bin .eql (.t 45) (.c (.int .i64 0))),
 vG 47 44 true (.mov (.t 46)),
 vG 48 47 false (.mov (.t 6)),
 vG 49 47 false (.not (.t 48)),
 vG 50 44 true (.pick (.t 47) (.c (.bool true)) (.t 49)),
 vO 51 (.pick (.t 44) (.t 50) (.c (.bool false)))]
def r23_18 : List VOper := [
 vO 2 (.mov (.c (.bool false)))]
def v23_19 : VCode := (.seq (.region false r23_18) (.keep [2] (.weak .ret)))
def v23_20 : VCode := (.keep [0, 15, 16] (.weak .skip))
def v23_21 : VCode := (.cond (.t 51) v23_19 v23_20)
def v23_22 : VCode := (.seq (.region false r23_17) (.keep [0, 15, 16, 51] (.weak v23_21)))
def v23_23 : VCode := (.seq (.region false r23_16) (.keep [0, 3, 5, 6, 15, 16] (.weak v23_22)))
def v23_24 : VCode := (.seq (.region false r23_15) (.keep [0, 3, 4, 5, 15, 16] (.weak v23_23)))
def v23_25 : VCode := (.seq (.region false r23_14) (.keep [0, 3, 4, 15, 16] (.weak v23_24)))
def v23_26 : VCode := (.seq (.region false r23_13) (.keep [0, 3, 15, 16] (.weak v23_25)))
def v23_27 : VCode := (.block 1 v23_26)
def r23_28 : List VOper := [
 vO 52 (.bin .add (.t 16) (.c (.int .i64 1))),
 vO 16 (.mov (.t 52))]
def v23_29 : VCode := (.post [0, 15, 16] (.region false r23_28))
def v23_30 : VCode := (.seq v23_27 v23_29)
def v23_31 : VCode := (.seq v23_12 v23_30)
def v23_32 : VCode := (.seq (.region false r23_9) (.keep [0, 15, 16, 17] (.weak v23_31)))
def v23_33 : VCode := (.loop [0, 15, 16] v23_32)
def v23_34 : VCode := (.keep [0, 15, 16] (.weak v23_33))
def v23_35 : VCode := (.block 0 v23_34)
def v23_36 : VCode := (.seq (.region false r23_8) (.keep [0, 15, 16] (.weak v23_35)))
def r23_37 : List VOper := [
 vO 2 (.mov (.c (.bool true)))]
def v23_38 : VCode := (.seq (.region false r23_37) (.keep [2] (.weak .ret)))
def v23_39 : VCode := (.seq v23_36 v23_38)
def v23_40 : VCode := (.seq v23_7 v23_39)
def v23 : VCode := (.seq (.region false r23_1) (.keep [0] (.weak v23_40)))
theorem hv23 : codeOf Tryd.prog Tryd.f23.ntmps v23 (Tryd.f23.body.getD .skip) = some v23 := by kernel_rfl
theorem ok23 {ds : List PV} {r : PV} {fl : Bool} (h : vwp Tryd.prog v23 (retQ [(2, none)] r fl) (initSt ds)) : CallOK Tryd.prog 23 ds r fl :=
  fn_ok Tryd.func23 rfl (by decide) hv23 rfl mixed h

/- proc_New -/
def r9_1 : List VOper := [
 vO 2 (.alloc (some 3) (.agg [.int .i64 0, .int .i64 0, .usl (some 13) []])),
 vO 3 (.mov (.c (.int .i64 0)))]
def r9_2 : List VOper := [
 vO 5 (.mov (.t 0)),
 vO 6 (.call 23 [(.t 5)]),
 vO 7 (.not (.t 6))]
def r9_3 : List VOper := [
 vO 8 (.build [.int .i64 0, .int .i64 0, .usl (some 13) []] []),
 { dst := none, op := .store (some 3) (.t 2) (.t 8) },
 vO 3 (.mov (.c (.int .i64 25)))]
def v9_4 : VCode := (.seq (.region false r9_3) (.keep [2, 3] (.weak .ret)))
def v9_5 : VCode := (.keep [0, 2] (.weak .skip))
def v9_6 : VCode := (.cond (.t 7) v9_4 v9_5)
def v9_7 : VCode := (.seq (.region false r9_2) (.keep [0, 2, 7] (.weak v9_6)))
def r9_8 : List VOper := [
 vO 9 (.mov (.t 0)),
 vO 10 (.build [.int .i64 0, .int .i64 0, .int .i64 0, .str [], .str [], .int .i64 0, .int .i64 0, .int .i64 0, .str [], .usl none [], .str [], .usl (some 2) [], .bool false] [(0, 1, (.c (.int .i64 1))), (2, 1, (.c (.int .i64 1))), (3, 1, (.t 9)), (5, 1, (.c (.int .i64 1))), (6, 1, (.c (.int .i64 1))), (7, 1, (.c (.int .i64 1))), (8, 1, (.c (.str [47])))]),
 vO 4 (.alloc (some 13) (.agg [.int .i64 0, .int .i64 0, .int .i64 0, .str [], .str [], .int .i64 0, .int .i64 0, .int .i64 0, .str [], .usl none [], .str [], .usl (some 2) [], .bool false])),
 { dst := none, op := .store (some 13) (.t 4) (.t 10) }]
def r9_9 : List VOper := [
 vO 11 (.load (some 13) (.t 4)),
 vO 12 (.buildSlice (some 13) (.agg [.int .i64 0, .int .i64 0, .int .i64 0, .str [], .str [], .int .i64 0, .int .i64 0, .int .i64 0, .str [], .usl none [], .str [], .usl (some 2) [], .bool false]) 1 [(0, (.t 11))]),
 vO 13 (.build [.int .i64 0, .int .i64 0, .usl (some 13) []] [(0, 1, (.c (.int .i64 2))), (1, 1, (.c (.int .i64 2))), (2, 1, (.t 12))]),
 { dst := none, op := .store (some 3) (.t 2) (.t 13) },
 vO 3 (.mov (.c (.int .i64 0)))]
def v9_10 : VCode := (.seq (.region false r9_9) (.keep [2, 3] (.weak .ret)))
def v9_11 : VCode := (.seq (.region false r9_8) (.keep [2, 4] (.weak v9_10)))
def v9_12 : VCode := (.seq v9_7 v9_11)
def v9 : VCode := (.seq (.region false r9_1) (.keep [0, 2] (.weak v9_12)))
theorem hv9 : codeOf Tryd.prog Tryd.f9.ntmps v9 (Tryd.f9.body.getD .skip) = some v9 := by kernel_rfl
theorem ok9 {ds : List PV} {r : PV} {fl : Bool} (h : vwp Tryd.prog v9 (retQ [(2, some (some 3)), (3, none)] r fl) (initSt ds)) : CallOK Tryd.prog 9 ds r fl :=
  fn_ok Tryd.func9 rfl (by decide) hv9 rfl mixed h

/- slices_Clone_string_string_n -/
def r51_1 : List VOper := [
 vO 2 (.mov (.c (.nilsl)))]
def r51_2 : List VOper := [
 vO 3 (.mov (.t 0)),
 vO 4 (.isNil false (.t 3))]
def r51_3 : List VOper := [
 vO 2 (.mov (.c (.nilsl)))]
def v51_4 : VCode := (.seq (.region false r51_3) (.keep [2] (.weak .ret)))
def v51_5 : VCode := (.keep [0] (.weak .skip))
def v51_6 : VCode := (.cond (.t 4) v51_4 v51_5)
def v51_7 : VCode := (.seq (.region false r51_2) (.keep [0, 4] (.weak v51_6)))
def r51_8 : List VOper := [
 vO 5 (.buildSlice none (.str []) 0 []),
 vO 6 (.mov (.t 0)),
 vO 7 (.append none 16 (.t 5) (.t 6)),
 vO 2 (.mov (.t 7))]
def v51_9 : VCode := (.seq (.region false r51_8) (.keep [2] (.weak .ret)))
def v51_10 : VCode := (.seq v51_7 v51_9)
def v51 : VCode := (.seq (.region false r51_1) (.keep [0] (.weak v51_10)))
theorem hv51 : codeOf Tryd.prog Tryd.f51.ntmps v51 (Tryd.f51.body.getD .skip) = some v51 := by kernel_rfl
theorem ok51 {ds : List PV} {r : PV} {fl : Bool} (h : vwp Tryd.prog v51 (retQ [(2, none)] r fl) (initSt ds)) : CallOK Tryd.prog 51 ds r fl :=
  fn_ok Tryd.func51 rfl (by decide) hv51 rfl mixed h

/- slices_Clone_api_Wait_api_Wait_n -/
def r52_1 : List VOper := [
 vO 2 (.mov (.c (.nilsl)))]
def r52_2 : List VOper := [
 vO 3 (.mov (.t 0)),
 vO 4 (.isNil false (.t 3))]
def r52_3 : List VOper := [
 vO 2 (.mov (.c (.nilsl)))]
def v52_4 : VCode := (.seq (.region false r52_3) (.keep [2] (.weak .ret)))
def v52_5 : VCode := (.keep [0] (.weak .skip))
def v52_6 : VCode := (.cond (.t 4) v52_4 v52_5)
def v52_7 : VCode := (.seq (.region false r52_2) (.keep [0, 4] (.weak v52_6)))
def r52_8 : List VOper := [
 vO 5 (.buildSlice (some 2) (.agg [.int .i64 0, .str []]) 0 []),
 vO 6 (.mov (.t 0)),
 vO 7 (.append (some 2) 24 (.t 5) (.t 6)),
 vO 2 (.mov (.t 7))]
def v52_9 : VCode := (.seq (.region false r52_8) (.keep [2] (.weak .ret)))
def v52_10 : VCode := (.seq v52_7 v52_9)
def v52 : VCode := (.seq (.region false r52_1) (.keep [0] (.weak v52_10)))
theorem hv52 : codeOf Tryd.prog Tryd.f52.ntmps v52 (Tryd.f52.body.getD .skip) = some v52 := by kernel_rfl
theorem ok52 {ds : List PV} {r : PV} {fl : Bool} (h : vwp Tryd.prog v52 (retQ [(2, none)] r fl) (initSt ds)) : CallOK Tryd.prog 52 ds r fl :=
  fn_ok Tryd.func52 rfl (by decide) hv52 rfl mixed h

/- proc_clone -/
def r26_1 : List VOper := [
 vO 1 (.box (some 13) (.t 0)),
 vO 2 (.alloc (some 13) (.agg [.int .i64 0, .int .i64 0, .int .i64 0, .str [], .str [], .int .i64 0, .int .i64 0, .int .i64 0, .str [], .usl none [], .str [], .usl (some 2) [], .bool false]))]
def r26_2 : List VOper := [
 vO 3 (.fieldAddr 9 (.t 1)),
 vO 4 (.load none (.t 3)),
 vO 5 (.call 51 [(.t 4)]),
 vO 6 (.fieldAddr 9 (.t 1)),
 { dst := none, op := .store none (.t 6) (.t 5) }]
def r26_3 : List VOper := [
 vO 7 (.fieldAddr 11 (.t 1)),
 vO 8 (.load none (.t 7)),
 vO 9 (.call 52 [(.t 8)]),
 vO 10 (.fieldAddr 11 (.t 1)),
 { dst := none, op := .store none (.t 10) (.t 9) }]
def r26_4 : List VOper := [
 vO 11 (.load (some 13) (.t 1)),
 { dst := none, op := .store (some 13) (.t 2) (.t 11) }]
def v26_5 : VCode := (.seq (.region false r26_4) (.keep [2] (.weak .ret)))
def v26_6 : VCode := (.seq (.region false r26_3) (.keep [1, 2] (.weak v26_5)))
def v26_7 : VCode := (.seq (.region false r26_2) (.keep [1, 2] (.weak v26_6)))
def v26 : VCode := (.seq (.region false r26_1) (.keep [1, 2] (.weak v26_7)))
theorem hv26 : codeOf Tryd.prog Tryd.f26.ntmps v26 (Tryd.f26.body.getD .skip) = some v26 := by kernel_rfl
theorem ok26 {ds : List PV} {r : PV} {fl : Bool} (h : vwp Tryd.prog v26 (retQ [(2, some (some 13))] r fl) (initSt ds)) : CallOK Tryd.prog 26 ds r fl :=
  fn_ok Tryd.func26 rfl (by decide) hv26 rfl mixed h

/- proc_own -/
def r31_1 : List VOper := [
 vO 1 (.box (some 3) (.t 0)),
 vO 2 (.alloc (some 3) (.agg [.int .i64 0, .int .i64 0, .usl (some 13) []]))]
def r31_2 : List VOper := [
 vO 6 (.fieldAddr 2 (.t 1)),
 vO 7 (.load none (.t 6)),
 vO 8 (.lenSl (.t 7)),
 vO 9 (.makeSlice (some 13) 168 (.agg [.int .i64 0, .int .i64 0, .int .i64 0, .str [], .str [], .int .i64 0, .int .i64 0, .int .i64 0, .str [], .usl none [], .str [], .usl (some 2) [], .bool false]) (.t 8) (.t 8)),
 vO 3 (.mov (.t 9))]
def r31_3 : List VOper := [
 vO 10 (.fieldAddr 2 (.t 1)),
 vO 11 (.load none (.t 10)),
 vO 12 (.lenSl (.t 11)),
 vO 13 (.mov (.c (.int .i64 0)))]
def r31_4 : List VOper := [
 vO 14 (.bin .lss (.t 13) (.t 12))]
def v31_5 : VCode := (.keep [1, 2, 3, 11, 12, 13] (.weak .skip))
def v31_6 : VCode := (.keep [1, 2, 3] (.weak (.exit 0)))
def v31_7 : VCode := (.cond (.t 14) v31_5 v31_6)
def r31_8 : List VOper := [
 vO 15 (.mov (.t 13)),
 vO 16 (.indexAddr (some 13) (.t 11) (.t 13)),
 vO 17 (.load (some 13) (.t 16)),
 vO 5 (.alloc (some 13) (.agg [.int .i64 0, .int .i64 0, .int .i64 0, .str [], .str [], .int .i64 0, .int .i64 0, .int .i64 0, .str [], .usl none [], .str [], .usl (some 2) [], .bool false])),
 vO 4 (.mov (.t 15)),
 { dst := none, op := .store (some 13) (.t 5) (.t 17) }]
def r31_9 : List VOper := [
 vO 18 (.mov (.t 3)),
 vO 19 (.mov (.t 4)),
 vO 20 (.load (some 13) (.t 5)),
 vO 21 (.call 26 [(.t 20)]),
 vO 22 (.indexAddr (some 13) (.t 18) (.t 19)),
 { dst := none, op := .store (some 13) (.t 22) (.t 21) }]
def v31_10 : VCode := (.post [1, 2, 3, 11, 12, 13] (.region false r31_9))
def v31_11 : VCode := (.seq (.region false r31_8) (.keep [1, 2, 3, 4, 5, 11, 12, 13] (.weak v31_10)))
def v31_12 : VCode := (.block 1 v31_11)
def r31_13 : List VOper := [
 vO 23 (.bin .add (.t 13) (.c (.int .i64 1))),
 vO 13 (.mov (.t 23))]
def v31_14 : VCode := (.post [1, 2, 3, 11, 12, 13] (.region false r31_13))
def v31_15 : VCode := (.seq v31_12 v31_14)
def v31_16 : VCode := (.seq v31_7 v31_15)
def v31_17 : VCode := (.seq (.region false r31_4) (.keep [1, 2, 3, 11, 12, 13, 14] (.weak v31_16)))
def v31_18 : VCode := (.loop [1, 2, 3, 11, 12, 13] v31_17)
def v31_19 : VCode := (.keep [1, 2, 3, 11, 12, 13] (.weak v31_18))
def v31_20 : VCode := (.block 0 v31_19)
def v31_21 : VCode := (.seq (.region false r31_3) (.keep [1, 2, 3, 11, 12, 13] (.weak v31_20)))
def r31_22 : List VOper := [
 vO 24 (.mov (.t 3)),
 vO 25 (.fieldAddr 2 (.t 1)),
 { dst := none, op := .store none (.t 25) (.t 24) }]
def r31_23 : List VOper := [
 vO 26 (.load (some 3) (.t 1)),
 { dst := none, op := .store (some 3) (.t 2) (.t 26) }]
def v31_24 : VCode := (.seq (.region false r31_23) (.keep [2] (.weak .ret)))
def v31_25 : VCode := (.seq (.region false r31_22) (.keep [1, 2] (.weak v31_24)))
def v31_26 : VCode := (.seq v31_21 v31_25)
def v31_27 : VCode := (.seq (.region false r31_2) (.keep [1, 2, 3] (.weak v31_26)))
def v31 : VCode := (.seq (.region false r31_1) (.keep [1, 2] (.weak v31_27)))
theorem hv31 : codeOf Tryd.prog Tryd.f31.ntmps v31 (Tryd.f31.body.getD .skip) = some v31 := by kernel_rfl
theorem ok31 {ds : List PV} {r : PV} {fl : Bool} (h : vwp Tryd.prog v31 (retQ [(2, some (some 3))] r fl) (initSt ds)) : CallOK Tryd.prog 31 ds r fl :=
  fn_ok Tryd.func31 rfl (by decide) hv31 rfl mixed h

/- proc_index_1 -/
def r50_1 : List VOper := [
 vO 2 (.box (some 13) (.t 0)),
 vO 3 (.mov (.c (.bool false)))]
def r50_2 : List VOper := [
 vO 4 (.fieldAddr 0 (.t 2)),
 vO 5 (.load none (.t 4)),
 vO 6 (.load none (.t 1)),
 vO 7 (.bin .eql (.t 5) (.t 6)),
 vO 3 (.mov (.t 7))]
def v50_3 : VCode := (.seq (.region false r50_2) (.keep [3] (.weak .ret)))
def v50 : VCode := (.seq (.region false r50_1) (.keep [1, 2] (.weak v50_3)))
theorem hv50 : codeOf Tryd.prog Tryd.f50.ntmps v50 (Tryd.f50.body.getD .skip) = some v50 := by kernel_rfl
theorem ok50 {ds : List PV} {r : PV} {fl : Bool} (h : vwp Tryd.prog v50 (retQ [(3, none)] r fl) (initSt ds)) : CallOK Tryd.prog 50 ds r fl :=
  fn_ok Tryd.func50 rfl (by decide) hv50 rfl mixed h

/- slices_IndexFunc_api_Proc_api_Proc_f50 -/
def r49_1 : List VOper := [
 vO 4 (.mov (.c (.int .i64 0)))]
def r49_2 : List VOper := [
 vO 6 (.mov (.t 0)),
 vO 7 (.lenSl (.t 6)),
 vO 8 (.mov (.c (.int .i64 0)))]
def r49_3 : List VOper := [
 vO 9 (.bin .lss (.t 8) (.t 7))]
def v49_4 : VCode := (.keep [0, 1, 7, 8] (.weak .skip))
def v49_5 : VCode := (.keep [] (.weak (.exit 0)))
def v49_6 : VCode := (.cond (.t 9) v49_4 v49_5)
def r49_7 : List VOper := [
 vO 10 (.mov (.t 8)),
 vO 5 (.mov (.t 10))]
def r49_8 : List VOper := [
 vO 11 (.mov (.t 1)),
 vO 12 (.mov (.t 0)),
 vO 13 (.mov (.t 5)),
 vO 14 (.indexAddr (some 13) (.t 12) (.t 13)),
 vO 15 (.load (some 13) (.t 14)),
 vO 16 (.callv (.t 11) [(.t 15)])]
def r49_9 : List VOper := [
 vO 17 (.mov (.t 5)),
 vO 4 (.mov (.t 17))]
def v49_10 : VCode := (.seq (.region false r49_9) (.keep [4] (.weak .ret)))
def v49_11 : VCode := (.keep [0, 1, 7, 8] (.weak .skip))
def v49_12 : VCode := (.cond (.t 16) v49_10 v49_11)
def v49_13 : VCode := (.seq (.region false r49_8) (.keep [0, 1, 5, 7, 8, 16] (.weak v49_12)))
def v49_14 : VCode := (.seq (.region false r49_7) (.keep [0, 1, 5, 7, 8] (.weak v49_13)))
def v49_15 : VCode := (.block 1 v49_14)
def r49_16 : List VOper := [
 vO 18 (.bin .add (.t 8) (.c (.int .i64 1))),
 vO 8 (.mov (.t 18))]
def v49_17 : VCode := (.post [0, 1, 7, 8] (.region false r49_16))
def v49_18 : VCode := (.seq v49_15 v49_17)
def v49_19 : VCode := (.seq v49_6 v49_18)
def v49_20 : VCode := (.seq (.region false r49_3) (.keep [0, 1, 7, 8, 9] (.weak v49_19)))
def v49_21 : VCode := (.loop [0, 1, 7, 8] v49_20)
def v49_22 : VCode := (.keep [0, 1, 7, 8] (.weak v49_21))
def v49_23 : VCode := (.block 0 v49_22)
def v49_24 : VCode := (.seq (.region false r49_2) (.keep [0, 1, 7, 8] (.weak v49_23)))
def r49_25 : List VOper := [
 vO 4 (.mov (.c (.int .i64 (-1))))]
def v49_26 : VCode := (.seq (.region false r49_25) (.keep [4] (.weak .ret)))
def v49_27 : VCode := (.seq v49_24 v49_26)
def v49 : VCode := (.seq (.region false r49_1) (.keep [0, 1] (.weak v49_27)))
theorem hv49 : codeOf Tryd.prog Tryd.f49.ntmps v49 (Tryd.f49.body.getD .skip) = some v49 := by kernel_rfl
theorem ok49 {ds : List PV} {r : PV} {fl : Bool} (h : vwp Tryd.prog v49 (retQ [(4, none)] r fl) (initSt ds)) : CallOK Tryd.prog 49 ds r fl :=
  fn_ok Tryd.func49 rfl (by decide) hv49 rfl mixed h

/- proc_index -/
def r25_1 : List VOper := [
 vO 2 (.box (some 3) (.t 0)),
 vO 3 (.box none (.t 1)),
 vO 4 (.mov (.c (.int .i64 0)))]
def r25_2 : List VOper := [
 vO 5 (.fieldAddr 2 (.t 2)),
 vO 6 (.load none (.t 5)),
 vO 7 (.mkfn 50 [(.t 3)]),
 vO 8 (.call 49 [(.t 6), (.t 7)]),
 vO 4 (.mov (.t 8))]
def v25_3 : VCode := (.seq (.region false r25_2) (.keep [4] (.weak .ret)))
def v25 : VCode := (.seq (.region false r25_1) (.keep [2, 3] (.weak v25_3)))
theorem hv25 : codeOf Tryd.prog Tryd.f25.ntmps v25 (Tryd.f25.body.getD .skip) = some v25 := by kernel_rfl
theorem ok25 {ds : List PV} {r : PV} {fl : Bool} (h : vwp Tryd.prog v25 (retQ [(4, none)] r fl) (initSt ds)) : CallOK Tryd.prog 25 ds r fl :=
  fn_ok Tryd.func25 rfl (by decide) hv25 rfl mixed h

/- proc_Await_1 -/
def r35_1 : List VOper := [
 vO 2 (.box (some 13) (.t 0)),
 vO 3 (.mov (.c (.bool false)))]
def r35_2 : List VOper := [
 vO 4 (.fieldAddr 1 (.t 2)),
 vO 5 (.load none (.t 4)),
 vO 6 (.load none (.t 1)),
 vO 7 (.bin .eql (.t 5) (.t 6)),
 vO 8 (.mov (.t 7)),
 vG 9 8 true (.fieldAddr 12 (.t 2)),
 vG 10 8 true (.load none (.t 9)),
 vG 11 8 true (.not (.t 10)),
 vO 12 (.pick (.t 8) (.t 11) (.c (.bool false))),
 vO 3 (.mov (.t 12))]
def v35_3 : VCode := (.seq (.region false r35_2) (.keep [3] (.weak .ret)))
def v35 : VCode := (.seq (.region false r35_1) (.keep [1, 2] (.weak v35_3)))
theorem hv35 : codeOf Tryd.prog Tryd.f35.ntmps v35 (Tryd.f35.body.getD .skip) = some v35 := by kernel_rfl
theorem ok35 {ds : List PV} {r : PV} {fl : Bool} (h : vwp Tryd.prog v35 (retQ [(3, none)] r fl) (initSt ds)) : CallOK Tryd.prog 35 ds r fl :=
  fn_ok Tryd.func35 rfl (by decide) hv35 rfl mixed h

/- slices_ContainsFunc_api_Proc_api_Proc_f35 -/
def r34_1 : List VOper := [
 vO 4 (.mov (.c (.bool false)))]
def r34_2 : List VOper := [
 vO 5 (.mov (.t 0)),
 vO 6 (.mov (.t 1)),
 vO 7 (.call 49 [(.t 5), (.t 6)]),
 vO 8 (.bin .geq (.t 7) (.c (.int .i64 0))),
 vO 4 (.mov (.t 8))]
def v34_3 : VCode := (.seq (.region false r34_2) (.keep [4] (.weak .ret)))
def v34 : VCode := (.seq (.region false r34_1) (.keep [0, 1] (.weak v34_3)))
theorem hv34 : codeOf Tryd.prog Tryd.f34.ntmps v34 (Tryd.f34.body.getD .skip) = some v34 := by kernel_rfl
theorem ok34 {ds : List PV} {r : PV} {fl : Bool} (h : vwp Tryd.prog v34 (retQ [(4, none)] r fl) (initSt ds)) : CallOK Tryd.prog 34 ds r fl :=
  fn_ok Tryd.func34 rfl (by decide) hv34 rfl mixed h

/- proc_Await -/
def r19_1 : List VOper := [
 vO 2 (.box (some 3) (.t 0)),
 vO 3 (.box none (.t 1)),
 vO 4 (.alloc (some 3) (.agg [.int .i64 0, .int .i64 0, .usl (some 13) []])),
 vO 5 (.alloc (some 2) (.agg [.int .i64 0, .str []])),
 vO 6 (.mov (.c (.bool false))),
 vO 7 (.mov (.c (.int .i64 0)))]
def r19_2 : List VOper := [
 vO 11 (.load (some 3) (.t 2)),
 vO 12 (.call 31 [(.t 11)]),
 vO 8 (.alloc (some 3) (.agg [.int .i64 0, .int .i64 0, .usl (some 13) []])),
 { dst := none, op := .store (some 3) (.t 8) (.t 12) }]
def r19_3 : List VOper := [
 vO 13 (.load (some 3) (.t 8)),
 vO 14 (.load none (.t 3)),
 vO 15 (.call 25 [(.t 13), (.t 14)]),
 vO 9 (.mov (.t 15))]
def r19_4 : List VOper := [
 vO 16 (.mov (.t 9)),
 vO 17 (.bin .lss (.t 16) (.c (.int .i64 0)))]
def r19_5 : List VOper := [
 vO 18 (.load (some 3) (.t 8)),
 vO 19 (.build [.int .i64 0, .str []] []),
 { dst := none, op := .store (some 3) (.t 4) (.t 18) },
 { dst := none, op := .store (some 2) (.t 5) (.t 19) },
 vO 6 (.mov (.c (.bool false))),
 vO 7 (.mov (.c (.int .i64 42)))]
def v19_6 : VCode := (.seq (.region false r19_5) (.keep [4, 5, 6, 7] (.weak .ret)))
def v19_7 : VCode := (.keep [3, 4, 5, 8, 9] (.weak .skip))
def v19_8 : VCode := (.cond (.t 17) v19_6 v19_7)
def v19_9 : VCode := (.seq (.region false r19_4) (.keep [3, 4, 5, 8, 9, 17] (.weak v19_8)))
def r19_10 : List VOper := [
 vO 20 (.fieldAddr 2 (.t 8)),
 vO 21 (.load none (.t 20)),
 vO 22 (.mov (.t 9)),
 vO 23 (.indexAddr (some 13) (.t 21) (.t 22)),
 vO 24 (.fieldAddr 11 (.t 23)),
 vO 25 (.load none (.t 24)),
 vO 10 (.mov (.t 25))]
def r19_11 : List VOper := [
 vO 26 (.mov (.t 10)),
 vO 27 (.lenSl (.t 26)),
 vO 28 (.bin .gtr (.t 27) (.c (.int .i64 0)))]
def r19_12 : List VOper := [
 vO 29 (.fieldAddr 2 (.t 8)),
 { dst := some 30, op := .load none (.t 29), bef := [0] },
 vO 31 (.mov (.t 9)),
 vO 32 (.mov (.t 10)),
 { dst := some 33, op := .slSl (some 2) (.t 32) (some (.c (.int .i64 1))) none, bef := [3] },
 { dst := some 34, op := .indexAddr (some 13) (.t 30) (.t 31), bef := [0, 1, 2, 3, 4] },
 { dst := some 35, op := .fieldAddr 11 (.t 34), bef := [0, 1, 2, 3, 4, 5] },
 { dst := none, op := .store none (.t 35) (.t 33), bef := [0, 1, 2, 3, 4, 5, 6] }]
def r19_13 : List VOper := [
 vO 36 (.load (some 3) (.t 8)),
 vO 37 (.mov (.t 10)),
 { dst := some 38, op := .indexAddr (some 2) (.t 37) (.c (.int .i64 0)), bef := [1] },
 { dst := some 39, op := .load (some 2) (.t 38), bef := [1, 2] },
 { dst := none, op := .store (some 3) (.t 4) (.t 36), bef := [0] },
 { dst := none, op := .store (some 2) (.t 5) (.t 39), bef := [0, 1, 2, 3, 4] },
 { dst := some 6, op := .mov (.c (.bool false)), bef := [0, 1, 2, 3, 4, 5] },
 { dst := some 7, op := .mov (.c (.int .i64 0)), bef := [0, 1, 2, 3, 4, 5, 6] }]
def v19_14 : VCode := (.seq (.region true r19_13) (.keep [4, 5, 6, 7] (.weak .ret)))
def v19_15 : VCode := (.seq (.region true r19_12) (.keep [4, 5, 8, 10] (.weak v19_14)))
def v19_16 : VCode := (.keep [3, 4, 5, 8] (.weak .skip))
def v19_17 : VCode := (.cond (.t 28) v19_15 v19_16)
def v19_18 : VCode := (.seq (.region false r19_11) (.keep [3, 4, 5, 8, 9, 10, 28] (.weak v19_17)))
def v19_19 : VCode := (.seq (.region false r19_10) (.keep [3, 4, 5, 8, 9, 10] (.weak v19_18)))
def r19_20 : List VOper := [
 vO 40 (.fieldAddr 2 (.t 8)),
 vO 41 (.load none (.t 40)),
 vO 42 (.mkfn 35 [(.t 3)]),
 vO 43 (.call 34 [(.t 41), (.t 42)])]
def r19_21 : List VOper := [
 vO 44 (.load (some 3) (.t 8)),
 vO 45 (.build [.int .i64 0, .str []] []),
 { dst := none, op := .store (some 3) (.t 4) (.t 44) },
 { dst := none, op := .store (some 2) (.t 5) (.t 45) },
 vO 6 (.mov (.c (.bool true))),
 vO 7 (.mov (.c (.int .i64 0)))]
def v19_22 : VCode := (.seq (.region false r19_21) (.keep [4, 5, 6, 7] (.weak .ret)))
def v19_23 : VCode := (.keep [4, 5, 8] (.weak .skip))
def v19_24 : VCode := (.cond (.t 43) v19_22 v19_23)
def v19_25 : VCode := (.seq (.region false r19_20) (.keep [4, 5, 8, 43] (.weak v19_24)))
def r19_26 : List VOper := [
 vO 46 (.load (some 3) (.t 8)),
 vO 47 (.build [.int .i64 0, .str []] []),
 { dst := none, op := .store (some 3) (.t 4) (.t 46) },
 { dst := none, op := .store (some 2) (.t 5) (.t 47) },
 vO 6 (.mov (.c (.bool false))),
 vO 7 (.mov (.c (.int .i64 42)))]
def v19_27 : VCode := (.seq (.region false r19_26) (.keep [4, 5, 6, 7] (.weak .ret)))
def v19_28 : VCode := (.seq v19_25 v19_27)
def v19_29 : VCode := (.seq v19_19 v19_28)
def v19_30 : VCode := (.seq v19_9 v19_29)
def v19_31 : VCode := (.seq (.region false r19_3) (.keep [3, 4, 5, 8, 9] (.weak v19_30)))
def v19_32 : VCode := (.seq (.region false r19_2) (.keep [3, 4, 5, 8] (.weak v19_31)))
def v19 : VCode := (.seq (.region false r19_1) (.keep [2, 3, 4, 5] (.weak v19_32)))
theorem hv19 : codeOf Tryd.prog Tryd.f19.ntmps v19 (Tryd.f19.body.getD .skip) = some v19 := by kernel_rfl
theorem ok19 {ds : List PV} {r : PV} {fl : Bool} (h : vwp Tryd.prog v19 (retQ [(4, some (some 3)), (5, some (some 2)), (6, none), (7, none)] r fl) (initSt ds)) : CallOK Tryd.prog 19 ds r fl :=
  fn_ok Tryd.func19 rfl (by decide) hv19 rfl mixed h

/- proc_contradicts -/
def r36_1 : List VOper := [
 vO 2 (.mov (.c (.bool false)))]
def r36_2 : List VOper := [
 vO 5 (.buildSlice none (.int .i64 0) 3 [(0, (.c (.int .i64 9))), (1, (.c (.int .i64 18))), (2, (.c (.int .i64 36)))]),
 vO 6 (.lenSl (.t 5)),
 vO 7 (.mov (.c (.int .i64 0)))]
def r36_3 : List VOper := [
 vO 8 (.bin .lss (.t 7) (.t 6))]
def v36_4 : VCode := (.keep [0, 5, 6, 7] (.weak .skip))
def v36_5 : VCode := (.keep [] (.weak (.exit 0)))
def v36_6 : VCode := (.cond (.t 8) v36_4 v36_5)
def r36_7 : List VOper := [
 vO 9 (.indexAddr none (.t 5) (.t 7)),
 vO 10 (.load none (.t 9)),
 vO 4 (.mov (.t 10))]
def r36_8 : List VOper := [
 vO 11 (.mov (.t 0)),
 vO 12 (.mov (.t 4)),
 vO 13 (.bin .and (.t 11) (.t 12)),
 vO 14 (.mov (.t 4)),
 vO 15 (.bin .eql (.t 13) (.t 14))]
def r36_9 : List VOper := [
 vO 2 (.mov (.c (.bool true)))]
def v36_10 : VCode := (.seq (.region false r36_9) (.keep [2] (.weak .ret)))
def v36_11 : VCode := (.keep [0, 5, 6, 7] (.weak .skip))
def v36_12 : VCode := (.cond (.t 15) v36_10 v36_11)
def v36_13 : VCode := (.seq (.region false r36_8) (.keep [0, 5, 6, 7, 15] (.weak v36_12)))
def v36_14 : VCode := (.seq (.region false r36_7) (.keep [0, 4, 5, 6, 7] (.weak v36_13)))
def v36_15 : VCode := (.block 1 v36_14)
def r36_16 : List VOper := [
 vO 16 (.bin .add (.t 7) (.c (.int .i64 1))),
 vO 7 (.mov (.t 16))]
def v36_17 : VCode := (.post [0, 5, 6, 7] (.region false r36_16))
def v36_18 : VCode := (.seq v36_15 v36_17)
def v36_19 : VCode := (.seq v36_6 v36_18)
def v36_20 : VCode := (.seq (.region false r36_3) (.keep [0, 5, 6, 7, 8] (.weak v36_19)))
def v36_21 : VCode := (.loop [0, 5, 6, 7] v36_20)
def v36_22 : VCode := (.keep [0, 5, 6, 7] (.weak v36_21))
def v36_23 : VCode := (.block 0 v36_22)
def v36_24 : VCode := (.seq (.region false r36_2) (.keep [0, 5, 6, 7] (.weak v36_23)))
def r36_25 : List VOper := [
 vO 2 (.mov (.c (.bool false)))]
def v36_26 : VCode := (.seq (.region false r36_25) (.keep [2] (.weak .ret)))
def v36_27 : VCode := (.seq v36_24 v36_26)
def v36 : VCode := (.seq (.region false r36_1) (.keep [0] (.weak v36_27)))
theorem hv36 : codeOf Tryd.prog Tryd.f36.ntmps v36 (Tryd.f36.body.getD .skip) = some v36 := by kernel_rfl
theorem ok36 {ds : List PV} {r : PV} {fl : Bool} (h : vwp Tryd.prog v36 (retQ [(2, none)] r fl) (initSt ds)) : CallOK Tryd.prog 36 ds r fl :=
  fn_ok Tryd.func36 rfl (by decide) hv36 rfl mixed h

/- proc_Fork -/
def r20_1 : List VOper := [
 vO 3 (.box (some 3) (.t 0)),
 vO 5 (.box none (.t 2)),
 vO 6 (.alloc (some 3) (.agg [.int .i64 0, .int .i64 0, .usl (some 13) []])),
 vO 7 (.mov (.c (.int .i64 0))),
 vO 8 (.mov (.c (.int .i64 0)))]
def r20_2 : List VOper := [
 vO 14 (.load (some 3) (.t 3)),
 vO 15 (.call 31 [(.t 14)]),
 vO 9 (.alloc (some 3) (.agg [.int .i64 0, .int .i64 0, .usl (some 13) []])),
 { dst := none, op := .store (some 3) (.t 9) (.t 15) }]
def r20_3 : List VOper := [
 vO 16 (.load (some 3) (.t 9)),
 vO 17 (.mov (.t 1)),
 vO 18 (.call 25 [(.t 16), (.t 17)]),
 vO 10 (.mov (.t 18))]
def r20_4 : List VOper := [
 vO 20 (.mov (.t 10)),
 vO 21 (.bin .lss (.t 20) (.c (.int .i64 0))),
 vO 19 (.mov (.t 21))]
def r20_5 : List VOper := [
 vO 22 (.load (some 3) (.t 9)),
 { dst := none, op := .store (some 3) (.t 6) (.t 22) },
 vO 7 (.mov (.c (.int .i64 0))),
 vO 8 (.mov (.c (.int .i64 42)))]
def v20_6 : VCode := (.seq (.region false r20_5) (.keep [6, 7, 8] (.weak .ret)))
def r20_7 : List VOper := [
 vO 24 (.load none (.t 5)),
 vO 25 (.bin .lss (.t 24) (.c (.int .i64 0))),
 vO 23 (.mov (.t 25))]
def v20_8 : VCode := (.keep [1, 5, 6, 9, 10, 23] (.weak .skip))
def r20_9 : List VOper := [
 vO 26 (.load none (.t 5)),
 vO 27 (.bin .andNot (.t 26) (.c (.int .i64 127))),
 vO 28 (.bin .neq (.t 27) (.c (.int .i64 0))),
 vO 23 (.mov (.t 28))]
def v20_10 : VCode := (.keep [1, 5, 6, 9, 10, 23] (.weak .skip))
def r20_11 : List VOper := [
 vO 29 (.load none (.t 5)),
 vO 30 (.call 36 [(.t 29)]),
 vO 23 (.mov (.t 30))]
def v20_12 : VCode := (.post [1, 5, 6, 9, 10, 23] (.region false r20_11))
def v20_13 : VCode := (.cond (.t 23) v20_10 v20_12)
def v20_14 : VCode := (.seq (.region false r20_9) (.keep [1, 5, 6, 9, 10, 23] (.weak v20_13)))
def v20_15 : VCode := (.cond (.t 23) v20_8 v20_14)
def v20_16 : VCode := (.seq (.region false r20_7) (.keep [1, 5, 6, 9, 10, 23] (.weak v20_15)))
def r20_17 : List VOper := [
 vO 31 (.load (some 3) (.t 9)),
 { dst := none, op := .store (some 3) (.t 6) (.t 31) },
 vO 7 (.mov (.c (.int .i64 0))),
 vO 8 (.mov (.c (.int .i64 1)))]
def v20_18 : VCode := (.seq (.region false r20_17) (.keep [6, 7, 8] (.weak .ret)))
def r20_19 : List VOper := [
 vO 33 (.fieldAddr 2 (.t 9)),
 vO 34 (.load none (.t 33)),
 vO 35 (.lenSl (.t 34)),
 vO 36 (.bin .geq (.t 35) (.c (.int .i64 64))),
 vO 32 (.mov (.t 36))]
def v20_20 : VCode := (.keep [1, 5, 6, 9, 10, 32] (.weak .skip))
def r20_21 : List VOper := [
 vO 37 (.fieldAddr 0 (.t 9)),
 vO 38 (.load none (.t 37)),
 vO 39 (.bin .gtr (.t 38) (.c (.int .i64 1048575))),
 vO 32 (.mov (.t 39))]
def v20_22 : VCode := (.keep [1, 5, 6, 9, 10, 32] (.weak .skip))
def r20_23 : List VOper := [
 vO 40 (.fieldAddr 1 (.t 9)),
 vO 41 (.load none (.t 40)),
 vO 42 (.bin .gtr (.t 41) (.c (.int .i64 1099511627774))),
 vO 32 (.mov (.t 42))]
def v20_24 : VCode := (.post [1, 5, 6, 9, 10, 32] (.region false r20_23))
def v20_25 : VCode := (.cond (.t 32) v20_22 v20_24)
def v20_26 : VCode := (.seq (.region false r20_21) (.keep [1, 5, 6, 9, 10, 32] (.weak v20_25)))
def v20_27 : VCode := (.cond (.t 32) v20_20 v20_26)
def v20_28 : VCode := (.seq (.region false r20_19) (.keep [1, 5, 6, 9, 10, 32] (.weak v20_27)))
def r20_29 : List VOper := [
 vO 43 (.load (some 3) (.t 9)),
 { dst := none, op := .store (some 3) (.t 6) (.t 43) },
 vO 7 (.mov (.c (.int .i64 0))),
 vO 8 (.mov (.c (.int .i64 22)))]
def v20_30 : VCode := (.seq (.region false r20_29) (.keep [6, 7, 8] (.weak .ret)))
def v20_31 : VCode := (.keep [1, 5, 6, 9, 10] (.weak .skip))
def v20_32 : VCode := (.cond (.t 32) v20_30 v20_31)
def v20_33 : VCode := (.seq v20_28 v20_32)
def v20_34 : VCode := (.cond (.t 23) v20_18 v20_33)
def v20_35 : VCode := (.seq v20_16 v20_34)
def v20_36 : VCode := (.cond (.t 19) v20_6 v20_35)
def v20_37 : VCode := (.seq (.region false r20_4) (.keep [1, 5, 6, 9, 10, 19] (.weak v20_36)))
def v20_38 : VCode := (.block 0 v20_37)
def r20_39 : List VOper := [
 vO 44 (.fieldAddr 2 (.t 9)),
 vO 45 (.load none (.t 44)),
 vO 46 (.mov (.t 10)),
 vO 47 (.indexAddr (some 13) (.t 45) (.t 46)),
 vO 48 (.load (some 13) (.t 47)),
 vO 11 (.alloc (some 13) (.agg [.int .i64 0, .int .i64 0, .int .i64 0, .str [], .str [], .int .i64 0, .int .i64 0, .int .i64 0, .str [], .usl none [], .str [], .usl (some 2) [], .bool false])),
 { dst := none, op := .store (some 13) (.t 11) (.t 48) }]
def r20_40 : List VOper := [
 vO 49 (.fieldAddr 0 (.t 9)),
 vO 50 (.load none (.t 49)),
 vO 51 (.mov (.t 1)),
 vO 52 (.fieldAddr 3 (.t 11)),
 vO 53 (.load none (.t 52)),
 vO 54 (.fieldAddr 4 (.t 11)),
 vO 55 (.load none (.t 54)),
 vO 56 (.fieldAddr 5 (.t 11)),
 vO 57 (.load none (.t 56)),
 vO 58 (.fieldAddr 6 (.t 11)),
 vO 59 (.load none (.t 58)),
 vO 60 (.fieldAddr 7 (.t 11)),
 vO 61 (.load none (.t 60)),
 vO 62 (.fieldAddr 8 (.t 11)),
 vO 63 (.load none (.t 62)),
 vO 64 (.load none (.t 5)),
 vO 65 (.bin .and (.t 64) (.c (.int .i64 64))),
 vO 66 (.bin .neq (.t 65) (.c (.int .i64 0))),
 vO 67 (.build [.int .i64 0, .int .i64 0, .int .i64 0, .str [], .str [], .int .i64 0, .int .i64 0, .int .i64 0, .str [], .usl none [], .str [], .usl (some 2) [], .bool false] [(0, 1, (.t 50)), (1, 1, (.t 51)), (2, 1, (.c (.int .i64 1))), (3, 1, (.t 53)), (4, 1, (.t 55)), (5, 1, (.t 57)), (6, 1, (.t 59)), (7, 1, (.t 61)), (8, 1, (.t 63)), (12, 1, (.t 66))]),
 vO 12 (.alloc (some 13) (.agg [.int .i64 0, .int .i64 0, .int .i64 0, .str [], .str [], .int .i64 0, .int .i64 0, .int .i64 0, .str [], .usl none [], .str [], .usl (some 2) [], .bool false])),
 { dst := none, op := .store (some 13) (.t 12) (.t 67) }]
def r20_41 : List VOper := [
 vO 68 (.mkfn 37 [(.t 5), (.t 9)]),
 vO 13 (.mov (.t 68))]
def r20_42 : List VOper := [
 vO 69 (.mov (.t 13)),
 vO 70 (.fieldAddr 5 (.t 12)),
 vO 71 (.callv (.t 69) [(.t 70), (.c (.int .i64 9))])]
def r20_43 : List VOper := [
 vO 72 (.mov (.t 13)),
 vO 73 (.fieldAddr 6 (.t 12)),
 vO 74 (.callv (.t 72) [(.t 73), (.c (.int .i64 18))])]
def r20_44 : List VOper := [
 vO 75 (.mov (.t 13)),
 vO 76 (.fieldAddr 7 (.t 12)),
 vO 77 (.callv (.t 75) [(.t 76), (.c (.int .i64 36))])]
def r20_45 : List VOper := [
 vO 78 (.fieldAddr 2 (.t 9)),
 vO 79 (.load none (.t 78)),
 vO 80 (.load (some 13) (.t 12)),
 vO 81 (.buildSlice (some 13) (.agg [.int .i64 0, .int .i64 0, .int .i64 0, .str [], .str [], .int .i64 0, .int .i64 0, .int .i64 0, .str [], .usl none [], .str [], .usl (some 2) [], .bool false]) 1 [(0, (.t 80))]),
 vO 82 (.append (some 13) 168 (.t 79) (.t 81)),
 vO 83 (.fieldAddr 2 (.t 9)),
 { dst := none, op := .store none (.t 83) (.t 82) }]
def r20_46 : List VOper := [
 vO 84 (.fieldAddr 0 (.t 9)),
 vO 85 (.load none (.t 84)),
 vO 86 (.bin .add (.t 85) (.c (.int .i64 1))),
 vO 87 (.fieldAddr 0 (.t 9)),
 { dst := none, op := .store none (.t 87) (.t 86) }]
def r20_47 : List VOper := [
 vO 88 (.load (some 3) (.t 9)),
 vO 89 (.fieldAddr 0 (.t 12)),
 { dst := some 90, op := .load none (.t 89), bef := [1] },
 { dst := none, op := .store (some 3) (.t 6) (.t 88), bef := [0] },
 { dst := some 7, op := .mov (.t 90), bef := [0, 1, 2, 3] },
 { dst := some 8, op := .mov (.c (.int .i64 0)), bef := [0, 1, 2, 3, 4] }]
def v20_48 : VCode := (.seq (.region true r20_47) (.keep [6, 7, 8] (.weak .ret)))
def v20_49 : VCode := (.seq (.region false r20_46) (.keep [6, 9, 12] (.weak v20_48)))
def v20_50 : VCode := (.seq (.region false r20_45) (.keep [6, 9, 12] (.weak v20_49)))
def v20_51 : VCode := (.seq (.region false r20_44) (.keep [6, 9, 12] (.weak v20_50)))
def v20_52 : VCode := (.seq (.region false r20_43) (.keep [6, 9, 12, 13] (.weak v20_51)))
def v20_53 : VCode := (.seq (.region false r20_42) (.keep [6, 9, 12, 13] (.weak v20_52)))
def v20_54 : VCode := (.seq (.region false r20_41) (.keep [6, 9, 12, 13] (.weak v20_53)))
def v20_55 : VCode := (.seq (.region false r20_40) (.keep [5, 6, 9, 12] (.weak v20_54)))
def v20_56 : VCode := (.seq (.region false r20_39) (.keep [1, 5, 6, 9, 11] (.weak v20_55)))
def v20_57 : VCode := (.seq v20_38 v20_56)
def v20_58 : VCode := (.seq (.region false r20_3) (.keep [1, 5, 6, 9, 10] (.weak v20_57)))
def v20_59 : VCode := (.seq (.region false r20_2) (.keep [1, 5, 6, 9] (.weak v20_58)))
def v20 : VCode := (.seq (.region false r20_1) (.keep [1, 3, 5, 6] (.weak v20_59)))
theorem hv20 : codeOf Tryd.prog Tryd.f20.ntmps v20 (Tryd.f20.body.getD .skip) = some v20 := by kernel_rfl
theorem ok20 {ds : List PV} {r : PV} {fl : Bool} (h : vwp Tryd.prog v20 (retQ [(6, some (some 3)), (7, none), (8, none)] r fl) (initSt ds)) : CallOK Tryd.prog 20 ds r fl :=
  fn_ok Tryd.func20 rfl (by decide) hv20 rfl mixed h

/- proc_Find -/
def r13_1 : List VOper := [
 vO 2 (.box (some 3) (.t 0)),
 vO 4 (.alloc (some 13) (.agg [.int .i64 0, .int .i64 0, .int .i64 0, .str [], .str [], .int .i64 0, .int .i64 0, .int .i64 0, .str [], .usl none [], .str [], .usl (some 2) [], .bool false])),
 vO 5 (.mov (.c (.bool false)))]
def r13_2 : List VOper := [
 vO 7 (.load (some 3) (.t 2)),
 vO 8 (.mov (.t 1)),
 vO 9 (.call 25 [(.t 7), (.t 8)]),
 vO 6 (.mov (.t 9))]
def r13_3 : List VOper := [
 vO 10 (.mov (.t 6)),
 vO 11 (.bin .lss (.t 10) (.c (.int .i64 0)))]
def r13_4 : List VOper := [
 vO 12 (.build [.int .i64 0, .int .i64 0, .int .i64 0, .str [], .str [], .int .i64 0, .int .i64 0, .int .i64 0, .str [], .usl none [], .str [], .usl (some 2) [], .bool false] []),
 { dst := none, op := .store (some 13) (.t 4) (.t 12) },
 vO 5 (.mov (.c (.bool false)))]
def v13_5 : VCode := (.seq (.region false r13_4) (.keep [4, 5] (.weak .ret)))
def v13_6 : VCode := (.keep [2, 4, 6] (.weak .skip))
def v13_7 : VCode := (.cond (.t 11) v13_5 v13_6)
def v13_8 : VCode := (.seq (.region false r13_3) (.keep [2, 4, 6, 11] (.weak v13_7)))
def r13_9 : List VOper := [
 vO 13 (.fieldAddr 2 (.t 2)),
 vO 14 (.load none (.t 13)),
 vO 15 (.mov (.t 6)),
 vO 16 (.indexAddr (some 13) (.t 14) (.t 15)),
 vO 17 (.load (some 13) (.t 16)),
 vO 18 (.call 26 [(.t 17)]),
 { dst := none, op := .store (some 13) (.t 4) (.t 18) },
 vO 5 (.mov (.c (.bool true)))]
def v13_10 : VCode := (.seq (.region false r13_9) (.keep [4, 5] (.weak .ret)))
def v13_11 : VCode := (.seq v13_8 v13_10)
def v13_12 : VCode := (.seq (.region false r13_2) (.keep [2, 4, 6] (.weak v13_11)))
def v13 : VCode := (.seq (.region false r13_1) (.keep [1, 2, 4] (.weak v13_12)))
theorem hv13 : codeOf Tryd.prog Tryd.f13.ntmps v13 (Tryd.f13.body.getD .skip) = some v13 := by kernel_rfl
theorem ok13 {ds : List PV} {r : PV} {fl : Bool} (h : vwp Tryd.prog v13 (retQ [(4, some (some 13)), (5, none)] r fl) (initSt ds)) : CallOK Tryd.prog 13 ds r fl :=
  fn_ok Tryd.func13 rfl (by decide) hv13 rfl mixed h

/- proc_short -/
def r32_1 : List VOper := [
 vO 2 (.mov (.c (.bool false)))]
def r32_2 : List VOper := [
 vO 3 (.mov (.t 0)),
 vO 4 (.lenStr (.t 3)),
 vO 5 (.bin .leq (.t 4) (.c (.int .i64 1024))),
 vO 2 (.mov (.t 5))]
def v32_3 : VCode := (.seq (.region false r32_2) (.keep [2] (.weak .ret)))
def v32 : VCode := (.seq (.region false r32_1) (.keep [0] (.weak v32_3)))
theorem hv32 : codeOf Tryd.prog Tryd.f32.ntmps v32 (Tryd.f32.body.getD .skip) = some v32 := by kernel_rfl
theorem ok32 {ds : List PV} {r : PV} {fl : Bool} (h : vwp Tryd.prog v32 (retQ [(2, none)] r fl) (initSt ds)) : CallOK Tryd.prog 32 ds r fl :=
  fn_ok Tryd.func32 rfl (by decide) hv32 rfl mixed h

/- slices_Delete_api_Proc_api_Proc_o -/
def r33_1 : List VOper := [
 vO 6 (.mov (.c (.nilsl)))]
def r33_2 : List VOper := [
 vO 8 (.mov (.t 0)),
 vO 9 (.mov (.t 1)),
 vO 10 (.mov (.t 2)),
 vO 11 (.mov (.t 0)),
 vO 12 (.lenSl (.t 11)),
 vO 13 (.slSl3 (.t 8) (.t 9) (.t 10) (.t 12))]
def r33_3 : List VOper := [
 vO 14 (.mov (.t 1)),
 vO 15 (.mov (.t 2)),
 vO 16 (.bin .eql (.t 14) (.t 15))]
def r33_4 : List VOper := [
 vO 17 (.mov (.t 0)),
 vO 6 (.mov (.t 17))]
def v33_5 : VCode := (.seq (.region false r33_4) (.keep [6] (.weak .ret)))
def v33_6 : VCode := (.keep [0, 1, 2] (.weak .skip))
def v33_7 : VCode := (.cond (.t 16) v33_5 v33_6)
def v33_8 : VCode := (.seq (.region false r33_3) (.keep [0, 1, 2, 16] (.weak v33_7)))
def r33_9 : List VOper := [
 vO 18 (.mov (.t 0)),
 vO 19 (.lenSl (.t 18)),
 vO 7 (.mov (.t 19))]
def r33_10 : List VOper := [
 vO 20 (.mov (.t 0)),
 vO 21 (.mov (.t 1)),
 { dst := some 22, op := .slSl (some 13) (.t 20) none (some (.t 21)), bef := [0, 1] },
 vO 23 (.mov (.t 0)),
 vO 24 (.mov (.t 2)),
 { dst := some 25, op := .slSl (some 13) (.t 23) (some (.t 24)) none, bef := [3, 4] },
 { dst := some 26, op := .append (some 13) 168 (.t 22) (.t 25), bef := [0, 1, 2, 3, 4, 5] },
 { dst := some 0, op := .mov (.t 26), bef := [0, 1, 2, 3, 4, 5, 6] }]
def r33_11 : List VOper := [
 vO 27 (.mov (.t 0)),
 vO 28 (.mov (.t 0)),
 vO 29 (.lenSl (.t 28)),
 vO 30 (.mov (.t 7)),
 vO 31 (.slSl (some 13) (.t 27) (some (.t 29)) (some (.t 30))),
 { dst := none, op := .clear (some 13) (.t 31) }]
def r33_12 : List VOper := [
 vO 32 (.mov (.t 0)),
 vO 6 (.mov (.t 32))]
def v33_13 : VCode := (.seq (.region false r33_12) (.keep [6] (.weak .ret)))
def v33_14 : VCode := (.seq (.region false r33_11) (.keep [0] (.weak v33_13)))
def v33_15 : VCode := (.seq (.region true r33_10) (.keep [0, 7] (.weak v33_14)))
def v33_16 : VCode := (.seq (.region false r33_9) (.keep [0, 1, 2, 7] (.weak v33_15)))
def v33_17 : VCode := (.seq v33_8 v33_16)
def v33_18 : VCode := (.seq (.region false r33_2) (.keep [0, 1, 2] (.weak v33_17)))
def v33 : VCode := (.seq (.region false r33_1) (.keep [0, 1, 2] (.weak v33_18)))
theorem hv33 : codeOf Tryd.prog Tryd.f33.ntmps v33 (Tryd.f33.body.getD .skip) = some v33 := by kernel_rfl
theorem ok33 {ds : List PV} {r : PV} {fl : Bool} (h : vwp Tryd.prog v33 (retQ [(6, none)] r fl) (initSt ds)) : CallOK Tryd.prog 33 ds r fl :=
  fn_ok Tryd.func33 rfl (by decide) hv33 rfl mixed h

/- proc_Exit -/
def r18_1 : List VOper := [
 vO 3 (.box (some 3) (.t 0)),
 vO 6 (.alloc (some 3) (.agg [.int .i64 0, .int .i64 0, .usl (some 13) []])),
 vO 7 (.mov (.c (.int .i64 0)))]
def r18_2 : List VOper := [
 vO 13 (.load (some 3) (.t 3)),
 vO 14 (.call 31 [(.t 13)]),
 vO 8 (.alloc (some 3) (.agg [.int .i64 0, .int .i64 0, .usl (some 13) []])),
 { dst := none, op := .store (some 3) (.t 8) (.t 14) }]
def r18_3 : List VOper := [
 vO 15 (.load (some 3) (.t 8)),
 vO 16 (.mov (.t 1)),
 vO 17 (.call 25 [(.t 15), (.t 16)]),
 vO 9 (.mov (.t 17))]
def r18_4 : List VOper := [
 vO 19 (.mov (.t 9)),
 vO 20 (.bin .lss (.t 19) (.c (.int .i64 0))),
 vO 18 (.mov (.t 20))]
def r18_5 : List VOper := [
 vO 21 (.load (some 3) (.t 8)),
 { dst := none, op := .store (some 3) (.t 6) (.t 21) },
 vO 7 (.mov (.c (.int .i64 42)))]
def v18_6 : VCode := (.seq (.region false r18_5) (.keep [6, 7] (.weak .ret)))
def r18_7 : List VOper := [
 vO 23 (.mov (.t 1)),
 vO 24 (.bin .eql (.t 23) (.c (.int .i64 1))),
 vO 22 (.mov (.t 24))]
def r18_8 : List VOper := [
 vO 25 (.load (some 3) (.t 8)),
 { dst := none, op := .store (some 3) (.t 6) (.t 25) },
 vO 7 (.mov (.c (.int .i64 43)))]
def v18_9 : VCode := (.seq (.region false r18_8) (.keep [6, 7] (.weak .ret)))
def r18_10 : List VOper := [
 vO 27 (.mov (.t 2)),
 vO 28 (.call 32 [(.t 27)]),
 vO 29 (.not (.t 28)),
 vO 26 (.mov (.t 29))]
def r18_11 : List VOper := [
 vO 30 (.load (some 3) (.t 8)),
 { dst := none, op := .store (some 3) (.t 6) (.t 30) },
 vO 7 (.mov (.c (.int .i64 4)))]
def v18_12 : VCode := (.seq (.region false r18_11) (.keep [6, 7] (.weak .ret)))
def v18_13 : VCode := (.keep [1, 2, 6, 8, 9] (.weak .skip))
def v18_14 : VCode := (.cond (.t 26) v18_12 v18_13)
def v18_15 : VCode := (.seq (.region false r18_10) (.keep [1, 2, 6, 8, 9, 26] (.weak v18_14)))
def v18_16 : VCode := (.cond (.t 22) v18_9 v18_15)
def v18_17 : VCode := (.seq (.region false r18_7) (.keep [1, 2, 6, 8, 9, 22] (.weak v18_16)))
def v18_18 : VCode := (.cond (.t 18) v18_6 v18_17)
def v18_19 : VCode := (.seq (.region false r18_4) (.keep [1, 2, 6, 8, 9, 18] (.weak v18_18)))
def v18_20 : VCode := (.block 0 v18_19)
def r18_21 : List VOper := [
 vO 31 (.fieldAddr 2 (.t 8)),
 vO 32 (.load none (.t 31)),
 vO 33 (.mov (.t 9)),
 vO 34 (.indexAddr (some 13) (.t 32) (.t 33)),
 vO 35 (.load (some 13) (.t 34)),
 vO 10 (.alloc (some 13) (.agg [.int .i64 0, .int .i64 0, .int .i64 0, .str [], .str [], .int .i64 0, .int .i64 0, .int .i64 0, .str [], .usl none [], .str [], .usl (some 2) [], .bool false])),
 { dst := none, op := .store (some 13) (.t 10) (.t 35) }]
def r18_22 : List VOper := [
 vO 36 (.load (some 3) (.t 8)),
 vO 37 (.fieldAddr 1 (.t 10)),
 vO 38 (.load none (.t 37)),
 vO 39 (.call 25 [(.t 36), (.t 38)]),
 vO 11 (.mov (.t 39))]
def r18_23 : List VOper := [
 vO 40 (.mov (.t 11)),
 vO 41 (.bin .geq (.t 40) (.c (.int .i64 0))),
 vO 42 (.mov (.t 41)),
 vG 43 42 true (.fieldAddr 12 (.t 10)),
 vG 44 42 true (.load none (.t 43)),
 vG 45 42 true (.not (.t 44)),
 vO 46 (.pick (.t 42) (.t 45) (.c (.bool false))),
 vO 47 (.mov (.t 46)),
 vG 48 47 true (.fieldAddr 2 (.t 8)),
 vG 49 47 true (.load none (.t 48)),
 vG 50 47 true (.mov (.t 11)),
 vG 51 47 true (.indexAddr (some 13) (.t 49) (.t 50)),
 vG 52 47 true (.fieldAddr 11 (.t 51)),
 vG 53 47 true (.load none (.t 52)),
 vG 54 47 true (.lenSl (.t 53)),
 vG 55 47 true (.bin .lss (.t 54) (.c (.int .i64 64))),
 vO 56 (.pick (.t 47) (.t 55) (.c (.bool false)))]
def r18_24 : List VOper := [
 vO 57 (.fieldAddr 2 (.t 8)),
 { dst := some 58, op := .load none (.t 57), bef := [0] },
 vO 59 (.mov (.t 11)),
 vO 60 (.fieldAddr 2 (.t 8)),
 { dst := some 61, op := .load none (.t 60), bef := [3] },
 vO 62 (.mov (.t 11)),
 { dst := some 63, op := .indexAddr (some 13) (.t 61) (.t 62), bef := [3, 4, 5] },
 { dst := some 64, op := .fieldAddr 11 (.t 63), bef := [3, 4, 5, 6] },
 { dst := some 65, op := .load none (.t 64), bef := [3, 4, 5, 6, 7] },
 vO 66 (.mov (.t 1)),
 vO 67 (.mov (.t 2)),
 { dst := some 68, op := .build [.int .i64 0, .str []] [(0, 1, (.t 66)), (1, 1, (.t 67))], bef := [9, 10] },
 { dst := some 69, op := .buildSlice (some 2) (.agg [.int .i64 0, .str []]) 1 [(0, (.t 68))], bef := [9, 10, 11] },
 { dst := some 70, op := .append (some 2) 24 (.t 65) (.t 69), bef := [3, 4, 5, 6, 7, 8, 9, 10, 11, 12] },
 { dst := some 71, op := .indexAddr (some 13) (.t 58) (.t 59), bef := [0, 1, 2, 3, 4, 5, 6, 7, 8, 9, 10, 11, 12, 13] },
 { dst := some 72, op := .fieldAddr 11 (.t 71), bef := [0, 1, 2, 3, 4, 5, 6, 7, 8, 9, 10, 11, 12, 13, 14] },
 { dst := none, op := .store none (.t 72) (.t 70), bef := [0, 1, 2, 3, 4, 5, 6, 7, 8, 9, 10, 11, 12, 13, 14, 15] }]
def v18_25 : VCode := (.post [1, 6, 8, 9] (.region true r18_24))
def v18_26 : VCode := (.keep [1, 6, 8, 9] (.weak .skip))
def v18_27 : VCode := (.cond (.t 56) v18_25 v18_26)
def v18_28 : VCode := (.seq (.region false r18_23) (.keep [1, 2, 6, 8, 9, 11, 56] (.weak v18_27)))
def v18_29 : VCode := (.seq (.region false r18_22) (.keep [1, 2, 6, 8, 9, 10, 11] (.weak v18_28)))
def r18_30 : List VOper := [
 vO 73 (.fieldAddr 2 (.t 8)),
 vO 74 (.load none (.t 73)),
 vO 75 (.mov (.t 9)),
 vO 76 (.mov (.t 9)),
 vO 77 (.bin .add (.t 76) (.c (.int .i64 1))),
 vO 78 (.call 33 [(.t 74), (.t 75), (.t 77)]),
 vO 79 (.fieldAddr 2 (.t 8)),
 { dst := none, op := .store none (.t 79) (.t 78) }]
def r18_31 : List VOper := [
 vO 80 (.fieldAddr 2 (.t 8)),
 vO 81 (.load none (.t 80)),
 vO 82 (.lenSl (.t 81)),
 vO 83 (.mov (.c (.int .i64 0)))]
def r18_32 : List VOper := [
 vO 84 (.bin .lss (.t 83) (.t 82))]
def v18_33 : VCode := (.keep [1, 6, 8, 82, 83] (.weak .skip))
def v18_34 : VCode := (.keep [6, 8] (.weak (.exit 1)))
def v18_35 : VCode := (.cond (.t 84) v18_33 v18_34)
def r18_36 : List VOper := [
 vO 85 (.mov (.t 83)),
 vO 12 (.mov (.t 85))]
def r18_37 : List VOper := [
 vO 86 (.fieldAddr 2 (.t 8)),
 vO 87 (.load none (.t 86)),
 vO 88 (.mov (.t 12)),
 vO 89 (.indexAddr (some 13) (.t 87) (.t 88)),
 vO 90 (.fieldAddr 1 (.t 89)),
 vO 91 (.load none (.t 90)),
 vO 92 (.mov (.t 1)),
 vO 93 (.bin .eql (.t 91) (.t 92))]
def r18_38 : List VOper := [
 vO 94 (.fieldAddr 2 (.t 8)),
 vO 95 (.load none (.t 94)),
 vO 96 (.mov (.t 12)),
 vO 97 (.indexAddr (some 13) (.t 95) (.t 96)),
 vO 98 (.fieldAddr 1 (.t 97)),
 { dst := none, op := .store none (.t 98) (.c (.int .i64 1)) }]
def v18_39 : VCode := (.post [1, 6, 8, 82, 83] (.region false r18_38))
def v18_40 : VCode := (.keep [1, 6, 8, 82, 83] (.weak .skip))
def v18_41 : VCode := (.cond (.t 93) v18_39 v18_40)
def v18_42 : VCode := (.seq (.region false r18_37) (.keep [1, 6, 8, 12, 82, 83, 93] (.weak v18_41)))
def v18_43 : VCode := (.seq (.region false r18_36) (.keep [1, 6, 8, 12, 82, 83] (.weak v18_42)))
def v18_44 : VCode := (.block 2 v18_43)
def r18_45 : List VOper := [
 vO 99 (.bin .add (.t 83) (.c (.int .i64 1))),
 vO 83 (.mov (.t 99))]
def v18_46 : VCode := (.post [1, 6, 8, 82, 83] (.region false r18_45))
def v18_47 : VCode := (.seq v18_44 v18_46)
def v18_48 : VCode := (.seq v18_35 v18_47)
def v18_49 : VCode := (.seq (.region false r18_32) (.keep [1, 6, 8, 82, 83, 84] (.weak v18_48)))
def v18_50 : VCode := (.loop [1, 6, 8, 82, 83] v18_49)
def v18_51 : VCode := (.keep [1, 6, 8, 82, 83] (.weak v18_50))
def v18_52 : VCode := (.block 1 v18_51)
def v18_53 : VCode := (.seq (.region false r18_31) (.keep [1, 6, 8, 82, 83] (.weak v18_52)))
def r18_54 : List VOper := [
 vO 100 (.load (some 3) (.t 8)),
 { dst := none, op := .store (some 3) (.t 6) (.t 100) },
 vO 7 (.mov (.c (.int .i64 0)))]
def v18_55 : VCode := (.seq (.region false r18_54) (.keep [6, 7] (.weak .ret)))
def v18_56 : VCode := (.seq v18_53 v18_55)
def v18_57 : VCode := (.seq (.region false r18_30) (.keep [1, 6, 8] (.weak v18_56)))
def v18_58 : VCode := (.seq v18_29 v18_57)
def v18_59 : VCode := (.seq (.region false r18_21) (.keep [1, 2, 6, 8, 9, 10] (.weak v18_58)))
def v18_60 : VCode := (.seq v18_20 v18_59)
def v18_61 : VCode := (.seq (.region false r18_3) (.keep [1, 2, 6, 8, 9] (.weak v18_60)))
def v18_62 : VCode := (.seq (.region false r18_2) (.keep [1, 2, 6, 8] (.weak v18_61)))
def v18 : VCode := (.seq (.region false r18_1) (.keep [1, 2, 3, 6] (.weak v18_62)))
theorem hv18 : codeOf Tryd.prog Tryd.f18.ntmps v18 (Tryd.f18.body.getD .skip) = some v18 := by kernel_rfl
theorem ok18 {ds : List PV} {r : PV} {fl : Bool} (h : vwp Tryd.prog v18 (retQ [(6, some (some 3)), (7, none)] r fl) (initSt ds)) : CallOK Tryd.prog 18 ds r fl :=
  fn_ok Tryd.func18 rfl (by decide) hv18 rfl mixed h

/- proc_family -/
def r28_1 : List VOper := [
 vO 2 (.box (some 3) (.t 0)),
 vO 4 (.mov (.c (.bool false)))]
def r28_2 : List VOper := [
 vO 6 (.fieldAddr 2 (.t 2)),
 vO 7 (.load none (.t 6)),
 vO 8 (.mov (.t 1)),
 vO 9 (.indexAddr (some 13) (.t 7) (.t 8)),
 vO 10 (.load (some 13) (.t 9)),
 vO 5 (.alloc (some 13) (.agg [.int .i64 0, .int .i64 0, .int .i64 0, .str [], .str [], .int .i64 0, .int .i64 0, .int .i64 0, .str [], .usl none [], .str [], .usl (some 2) [], .bool false])),
 { dst := none, op := .store (some 13) (.t 5) (.t 10) }]
def r28_3 : List VOper := [
 vO 11 (.mov (.t 1)),
 vO 12 (.bin .eql (.t 11) (.c (.int .i64 0)))]
def r28_4 : List VOper := [
 vO 13 (.fieldAddr 0 (.t 5)),
 vO 14 (.load none (.t 13)),
 vO 15 (.bin .eql (.t 14) (.c (.int .i64 1))),
 vO 16 (.mov (.t 15)),
 vG 17 16 true (.fieldAddr 1 (.t 5)),
 vG 18 16 true (.load none (.t 17)),
 vG 19 16 true (.bin .eql (.t 18) (.c (.int .i64 0))),
 vO 20 (.pick (.t 16) (.t 19) (.c (.bool false))),
 vO 4 (.mov (.t 20))]
def v28_5 : VCode := (.seq (.region false r28_4) (.keep [4] (.weak .ret)))
def v28_6 : VCode := (.keep [1, 2, 5] (.weak .skip))
def v28_7 : VCode := (.cond (.t 12) v28_5 v28_6)
def v28_8 : VCode := (.seq (.region false r28_3) (.keep [1, 2, 5, 12] (.weak v28_7)))
def r28_9 : List VOper := [
 vO 21 (.fieldAddr 2 (.t 2)),
 { dst := some 22, op := .load none (.t 21), bef := [0] },
 vO 23 (.mov (.t 1)),
 { dst := some 24, op := .bin .sub (.t 23) (.c (.int .i64 1)), bef := [2] },
 { dst := some 25, op := .indexAddr (some 13) (.t 22) (.t 24), bef := [0, 1, 2, 3] },
 { dst := some 26, op := .fieldAddr 0 (.t 25), bef := [0, 1, 2, 3, 4] },
 { dst := some 27, op := .load none (.t 26), bef := [0, 1, 2, 3, 4, 5] },
 vO 28 (.fieldAddr 0 (.t 5)),
 { dst := some 29, op := .load none (.t 28), bef := [7] },
 { dst := some 30, op := .bin .lss (.t 27) (.t 29), bef := [0, 1, 2, 3, 4, 5, 6, 7, 8] },
 { dst := some 31, op := .mov (.t 30), bef := [0, 1, 2, 3, 4, 5, 6, 7, 8, 9] },
 { dst := some 32, op := .fieldAddr 1 (.t 5), guard := some (31, true), bef := [0, 1, 2, 3, 4, 5, 6, 7, 8, 9, 10] },
 { dst := some 33, op := .load none (.t 32), guard := some (31, true), bef := [0, 1, 2, 3, 4, 5, 6, 7, 8, 9, 10, 11] },
 { dst := some 34, op := .fieldAddr 0 (.t 5), guard := some (31, true), bef := [0, 1, 2, 3, 4, 5, 6, 7, 8, 9, 10] },
 { dst := some 35, op := .load none (.t 34), guard := some (31, true), bef := [0, 1, 2, 3, 4, 5, 6, 7, 8, 9, 10, 13] },
 { dst := some 36, op := .bin .lss (.t 33) (.t 35), guard := some (31, true), bef := [0, 1, 2, 3, 4, 5, 6, 7, 8, 9, 10, 11, 12, 13, 14] },
 { dst := some 37, op := .pick (.t 31) (.t 36) (.c (.bool false)), bef := [0, 1, 2, 3, 4, 5, 6, 7, 8, 9, 10, 11, 12, 13, 14, 15] },
 { dst := some 38, op := .mov (.t 37), bef := [0, 1, 2, 3, 4, 5, 6, 7, 8, 9, 10, 11, 12, 13, 14, 15, 16] },
 { dst := some 39, op := .load (some 3) (.t 2), guard := some (38, true), bef := [0, 1, 2, 3, 4, 5, 6, 7, 8, 9, 10, 11, 12, 13, 14, 15, 16, 17] },
 { dst := some 40, op := .fieldAddr 1 (.t 5), guard := some (38, true), bef := [0, 1, 2, 3, 4, 5, 6, 7, 8, 9, 10, 11, 12, 13, 14, 15, 16, 17] },
 { dst := some 41, op := .load none (.t 40), guard := some (38, true), bef := [0, 1, 2, 3, 4, 5, 6, 7, 8, 9, 10, 11, 12, 13, 14, 15, 16, 17, 19] },
 { dst := some 42, op := .call 25 [(.t 39), (.t 41)], guard := some (38, true), bef := [0, 1, 2, 3, 4, 5, 6, 7, 8, 9, 10, 11, 12, 13, 14, 15, 16, 17, 18, 19, 20] },
 { dst := some 43, op := .bin .geq (.t 42) (.c (.int .i64 0)), guard := some (38, true), bef := [0, 1, 2, 3, 4, 5, 6, 7, 8, 9, 10, 11, 12, 13, 14, 15, 16, 17, 18, 19, 20, 21] },
 { dst := some 44, op := .pick (.t 38) (.t 43) (.c (.bool false)), bef := [0, 1, 2, 3, 4, 5, 6, 7, 8, 9, 10, 11, 12, 13, 14, 15, 16, 17, 18, 19, 20, 21, 22] },
 { dst := some 4, op := .mov (.t 44), bef := [0, 1, 2, 3, 4, 5, 6, 7, 8, 9, 10, 11, 12, 13, 14, 15, 16, 17, 18, 19, 20, 21, 22, 23] }]
def v28_10 : VCode := (.seq (.region true r28_9) (.keep [4] (.weak .ret)))
def v28_11 : VCode := (.seq v28_8 v28_10)
def v28_12 : VCode := (.seq (.region false r28_2) (.keep [1, 2, 5] (.weak v28_11)))
def v28 : VCode := (.seq (.region false r28_1) (.keep [1, 2] (.weak v28_12)))
theorem hv28 : codeOf Tryd.prog Tryd.f28.ntmps v28 (Tryd.f28.body.getD .skip) = some v28 := by kernel_rfl
theorem ok28 {ds : List PV} {r : PV} {fl : Bool} (h : vwp Tryd.prog v28 (retQ [(4, none)] r fl) (initSt ds)) : CallOK Tryd.prog 28 ds r fl :=
  fn_ok Tryd.func28 rfl (by decide) hv28 rfl mixed h

/- proc_state -/
def r53_1 : List VOper := [
 vO 2 (.mov (.c (.bool false)))]
def r53_2 : List VOper := [
 vO 3 (.mov (.t 0)),
 vO 4 (.bin .eql (.t 3) (.c (.int .i64 1))),
 vO 5 (.mov (.t 4)),
 vG 6 5 false (.mov (.t 0)),
 vG 7 5 false (.bin .eql (.t 6) (.c (.int .i64 2))),
 vO 8 (.pick (.t 5) (.c (.bool true)) (.t 7)),
 vO 9 (.mov (.t 8)),
 vG 10 9 false (.mov (.t 0)),
 vG 11 9 false (.bin .eql (.t 10) (.c (.int .i64 3))),
 vO 12 (.pick (.t 9) (.c (.bool true)) (.t 11)),
 vO 2 (.mov (.t 12))]
def v53_3 : VCode := (.seq (.region false r53_2) (.keep [2] (.weak .ret)))
def v53 : VCode := (.seq (.region false r53_1) (.keep [0] (.weak v53_3)))
theorem hv53 : codeOf Tryd.prog Tryd.f53.ntmps v53 (Tryd.f53.body.getD .skip) = some v53 := by kernel_rfl
theorem ok53 {ds : List PV} {r : PV} {fl : Bool} (h : vwp Tryd.prog v53 (retQ [(2, none)] r fl) (initSt ds)) : CallOK Tryd.prog 53 ds r fl :=
  fn_ok Tryd.func53 rfl (by decide) hv53 rfl mixed h

/- path_Valid -/
def r54_1 : List VOper := [
 vO 2 (.mov (.c (.bool false)))]
def r54_2 : List VOper := [
 vO 4 (.mov (.t 0)),
 vO 5 (.bin .eql (.t 4) (.c (.str []))),
 vO 6 (.mov (.t 5)),
 vG 7 6 false (.mov (.t 0)),
 vG 8 6 false (.bin .eql (.t 7) (.c (.str [46]))),
 vO 9 (.pick (.t 6) (.c (.bool true)) (.t 8)),
 vO 10 (.mov (.t 9)),
 vG 11 10 false (.mov (.t 0)),
 vG 12 10 false (.bin .eql (.t 11) (.c (.str [46, 46]))),
 vO 13 (.pick (.t 10) (.c (.bool true)) (.t 12)),
 vO 14 (.mov (.t 13)),
 vG 15 14 false (.mov (.t 0)),
 vG 16 14 false (.lenStr (.t 15)),
 vG 17 14 false (.bin .gtr (.t 16) (.c (.int .i64 64))),
 vO 18 (.pick (.t 14) (.c (.bool true)) (.t 17))]
def r54_3 : List VOper := [
 vO 2 (.mov (.c (.bool false)))]
def v54_4 : VCode := (.seq (.region false r54_3) (.keep [2] (.weak .ret)))
def v54_5 : VCode := (.keep [0] (.weak .skip))
def v54_6 : VCode := (.cond (.t 18) v54_4 v54_5)
def v54_7 : VCode := (.seq (.region false r54_2) (.keep [0, 18] (.weak v54_6)))
def r54_8 : List VOper := [
 vO 19 (.mov (.t 0)),
 vO 20 (.lenStr (.t 19)),
 vO 21 (.mov (.c (.int .i64 0)))]
def r54_9 : List VOper := [
 vO 22 (.bin .lss (.t 21) (.t 20))]
def v54_10 : VCode := (.keep [0, 20, 21] (.weak .skip))
def v54_11 : VCode := (.keep [] (.weak (.exit 0)))
def v54_12 : VCode := (.cond (.t 22) v54_10 v54_11)
def r54_13 : List VOper := [
 vO 23 (.mov (.t 21)),
 vO 3 (.mov (.t 23))]
def r54_14 : List VOper := [
 vO 24 (.mov (.t 0)),
 vO 25 (.mov (.t 3)),
 vO 26 (.indexStr (.t 24) (.t 25)),
 vO 27 (.bin .lss (.t 26) (.c (.int .u8 33))),
 vO 28 (.mov (.t 27)),
 vG 29 28 false (.mov (.t 0)),
 vG 30 28 false (.mov (.t 3)),
 vG 31 28 false (.indexStr (.t 29) (.t 30)),
 vG 32 28 false (.bin .gtr (.t 31) (.c (.int .u8 126))),
 vO 33 (.pick (.t 28) (.c (.bool true)) (.t 32)),
 vO 34 (.mov (.t 33)),
 vG 35 34 false (.mov (.t 0)),
 vG 36 34 false (.mov (.t 3)),
 vG 37 34 false (.indexStr (.t 35) (.t 36)),
 vG 38 34 false (.bin .eql (.t 37) (.c (.int .u8 47))),
 vO 39 (.pick (.t 34) (.c (.bool true)) (.t 38))]
def r54_15 : List VOper := [
 vO 2 (.mov (.c (.bool false)))]
def v54_16 : VCode := (.seq (.region false r54_15) (.keep [2] (.weak .ret)))
def v54_17 : VCode := (.keep [0, 20, 21] (.weak .skip))
def v54_18 : VCode := (.cond (.t 39) v54_16 v54_17)
def v54_19 : VCode := (.seq (.region false r54_14) (.keep [0, 20, 21, 39] (.weak v54_18)))
def v54_20 : VCode := (.seq (.region false r54_13) (.keep [0, 3, 20, 21] (.weak v54_19)))
def v54_21 : VCode := (.block 1 v54_20)
def r54_22 : List VOper := [
 vO 40 (.bin .add (.t 21) (.c (.int .i64 1))),
 vO 21 (.mov (.t 40))]
def v54_23 : VCode := (.post [0, 20, 21] (.region false r54_22))
def v54_24 : VCode := (.seq v54_21 v54_23)
def v54_25 : VCode := (.seq v54_12 v54_24)
def v54_26 : VCode := (.seq (.region false r54_9) (.keep [0, 20, 21, 22] (.weak v54_25)))
def v54_27 : VCode := (.loop [0, 20, 21] v54_26)
def v54_28 : VCode := (.keep [0, 20, 21] (.weak v54_27))
def v54_29 : VCode := (.block 0 v54_28)
def v54_30 : VCode := (.seq (.region false r54_8) (.keep [0, 20, 21] (.weak v54_29)))
def r54_31 : List VOper := [
 vO 2 (.mov (.c (.bool true)))]
def v54_32 : VCode := (.seq (.region false r54_31) (.keep [2] (.weak .ret)))
def v54_33 : VCode := (.seq v54_30 v54_32)
def v54_34 : VCode := (.seq v54_7 v54_33)
def v54 : VCode := (.seq (.region false r54_1) (.keep [0] (.weak v54_34)))
theorem hv54 : codeOf Tryd.prog Tryd.f54.ntmps v54 (Tryd.f54.body.getD .skip) = some v54 := by kernel_rfl
theorem ok54 {ds : List PV} {r : PV} {fl : Bool} (h : vwp Tryd.prog v54 (retQ [(2, none)] r fl) (initSt ds)) : CallOK Tryd.prog 54 ds r fl :=
  fn_ok Tryd.func54 rfl (by decide) hv54 rfl mixed h

/- unicode_utf8_RuneCountInString -/
def r85_1 : List VOper := [
 vO 2 (.mov (.c (.int .i64 0)))]
def r85_2 : List VOper := [
 vO 3 (.mov (.t 0)),
 vO 4 .bad]
def r85_3 : List VOper := [
 vO 5 .bad,
 vO 6 (.extract (.t 5) 0)]
def v85_4 : VCode := (.keep [2, 4] (.weak .skip))
def v85_5 : VCode := (.keep [2] (.weak (.exit 0)))
def v85_6 : VCode := (.cond (.t 6) v85_4 v85_5)
def r85_7 : List VOper := [
 vO 7 (.mov (.t 2)),
 vO 8 (.bin .add (.t 7) (.c (.int .i64 1))),
 vO 2 (.mov (.t 8))]
def v85_8 : VCode := (.post [2, 4] (.region false r85_7))
def v85_9 : VCode := (.block 1 v85_8)
def v85_10 : VCode := (.seq v85_6 v85_9)
def v85_11 : VCode := (.seq (.region false r85_3) (.keep [2, 4, 6] (.weak v85_10)))
def v85_12 : VCode := (.loop [2, 4] v85_11)
def v85_13 : VCode := (.keep [2, 4] (.weak v85_12))
def v85_14 : VCode := (.block 0 v85_13)
def v85_15 : VCode := (.seq (.region false r85_2) (.keep [2, 4] (.weak v85_14)))
def r85_16 : List VOper := [
 vO 9 (.mov (.t 2)),
 vO 2 (.mov (.t 9))]
def v85_17 : VCode := (.seq (.region false r85_16) (.keep [2] (.weak .ret)))
def v85_18 : VCode := (.seq v85_15 v85_17)
def v85 : VCode := (.seq (.region false r85_1) (.keep [0, 2, 9] (.weak v85_18)))
theorem hv85 : codeOf Tryd.prog Tryd.f85.ntmps v85 (Tryd.f85.body.getD .skip) = some v85 := by kernel_rfl
theorem ok85 {ds : List PV} {r : PV} {fl : Bool} (h : vwp Tryd.prog v85 (retQ [(2, none)] r fl) (initSt ds)) : CallOK Tryd.prog 85 ds r fl :=
  fn_ok Tryd.func85 rfl (by decide) hv85 rfl mixed h

/- unicode_utf8_decodeRuneInStringSlow -/
def r91_1 : List VOper := [
 vO 2 (.mov (.c (.int .i32 0))),
 vO 3 (.mov (.c (.int .i64 0)))]
def r91_2 : List VOper := [
 vO 13 (.mov (.t 0)),
 vO 14 (.lenStr (.t 13)),
 vO 4 (.mov (.t 14))]
def r91_3 : List VOper := [
 vO 15 (.mov (.t 4)),
 vO 16 (.bin .lss (.t 15) (.c (.int .i64 1)))]
def r91_4 : List VOper := [
 vO 2 (.mov (.c (.int .i32 65533))),
 vO 3 (.mov (.c (.int .i64 0)))]
def v91_5 : VCode := (.seq (.region false r91_4) (.keep [2, 3] (.weak .ret)))
def v91_6 : VCode := (.keep [0, 4] (.weak .skip))
def v91_7 : VCode := (.cond (.t 16) v91_5 v91_6)
def v91_8 : VCode := (.seq (.region false r91_3) (.keep [0, 4, 16] (.weak v91_7)))
def r91_9 : List VOper := [
 vO 17 (.mov (.t 0)),
 vO 18 (.indexStr (.t 17) (.c (.int .i64 0))),
 vO 5 (.mov (.t 18))]
def r91_10 : List VOper := [
 vO 19 (.mov (.t 5)),
 vO 20 .bad,
 vO 21 (.load none (.t 20)),
 vO 6 (.mov (.t 21))]
def r91_11 : List VOper := [
 vO 22 (.mov (.t 6)),
 vO 23 (.bin .geq (.t 22) (.c (.int .u8 240)))]
def r91_12 : List VOper := [
 vO 24 (.mov (.t 6)),
 vO 25 (.conv .i32 (.t 24)),
 vO 26 (.bin .shl (.t 25) (.c (.int .u64 31))),
 vO 27 (.bin .shr (.t 26) (.c (.int .u64 31))),
 vO 7 (.mov (.t 27))]
def r91_13 : List VOper := [
 vO 28 (.mov (.t 0)),
 vO 29 (.indexStr (.t 28) (.c (.int .i64 0))),
 vO 30 (.conv .i32 (.t 29)),
 vO 31 (.mov (.t 7)),
 vO 32 (.bin .andNot (.t 30) (.t 31)),
 vO 33 (.mov (.t 7)),
 vO 34 (.bin .and (.c (.int .i32 65533)) (.t 33)),
 vO 35 (.bin .or (.t 32) (.t 34)),
 vO 2 (.mov (.t 35)),
 vO 3 (.mov (.c (.int .i64 1)))]
def v91_14 : VCode := (.seq (.region false r91_13) (.keep [2, 3] (.weak .ret)))
def v91_15 : VCode := (.seq (.region false r91_12) (.keep [0, 7] (.weak v91_14)))
def v91_16 : VCode := (.keep [0, 4, 5, 6] (.weak .skip))
def v91_17 : VCode := (.cond (.t 23) v91_15 v91_16)
def v91_18 : VCode := (.seq (.region false r91_11) (.keep [0, 4, 5, 6, 23] (.weak v91_17)))
def r91_19 : List VOper := [
 vO 36 (.mov (.t 6)),
 vO 37 (.bin .and (.t 36) (.c (.int .u8 7))),
 vO 38 (.conv .i64 (.t 37)),
 vO 8 (.mov (.t 38))]
def r91_20 : List VOper := [
 vO 39 (.mov (.t 6)),
 vO 40 (.bin .shr (.t 39) (.c (.int .u64 4))),
 vO 41 .bad,
 vO 42 (.load (some 2) (.t 41)),
 vO 9 (.alloc (some 2) (.agg [.int .u8 0, .int .u8 0])),
 { dst := none, op := .store (some 2) (.t 9) (.t 42) }]
def r91_21 : List VOper := [
 vO 43 (.mov (.t 4)),
 vO 44 (.mov (.t 8)),
 vO 45 (.bin .lss (.t 43) (.t 44))]
def r91_22 : List VOper := [
 vO 2 (.mov (.c (.int .i32 65533))),
 vO 3 (.mov (.c (.int .i64 1)))]
def v91_23 : VCode := (.seq (.region false r91_22) (.keep [2, 3] (.weak .ret)))
def v91_24 : VCode := (.keep [0, 5, 8, 9] (.weak .skip))
def v91_25 : VCode := (.cond (.t 45) v91_23 v91_24)
def v91_26 : VCode := (.seq (.region false r91_21) (.keep [0, 5, 8, 9, 45] (.weak v91_25)))
def r91_27 : List VOper := [
 vO 46 (.mov (.t 0)),
 vO 47 (.indexStr (.t 46) (.c (.int .i64 1))),
 vO 10 (.mov (.t 47))]
def r91_28 : List VOper := [
 vO 48 (.mov (.t 10)),
 vO 49 (.fieldAddr 0 (.t 9)),
 vO 50 (.load none (.t 49)),
 vO 51 (.bin .lss (.t 48) (.t 50)),
 vO 52 (.mov (.t 51)),
 vG 53 52 false (.fieldAddr 1 (.t 9)),
 vG 54 52 false (.load none (.t 53)),
 vG 55 52 false (.mov (.t 10)),
 vG 56 52 false (.bin .lss (.t 54) (.t 55)),
 vO 57 (.pick (.t 52) (.c (.bool true)) (.t 56))]
def r91_29 : List VOper := [
 vO 2 (.mov (.c (.int .i32 65533))),
 vO 3 (.mov (.c (.int .i64 1)))]
def v91_30 : VCode := (.seq (.region false r91_29) (.keep [2, 3] (.weak .ret)))
def v91_31 : VCode := (.keep [0, 5, 8, 10] (.weak .skip))
def v91_32 : VCode := (.cond (.t 57) v91_30 v91_31)
def v91_33 : VCode := (.seq (.region false r91_28) (.keep [0, 5, 8, 10, 57] (.weak v91_32)))
def r91_34 : List VOper := [
 vO 58 (.mov (.t 8)),
 vO 59 (.bin .leq (.t 58) (.c (.int .i64 2)))]
def r91_35 : List VOper := [
 vO 60 (.mov (.t 5)),
 vO 61 (.bin .and (.t 60) (.c (.int .u8 31))),
 vO 62 (.conv .i32 (.t 61)),
 vO 63 (.bin .shl (.t 62) (.c (.int .u64 6))),
 vO 64 (.mov (.t 10)),
 vO 65 (.bin .and (.t 64) (.c (.int .u8 63))),
 vO 66 (.conv .i32 (.t 65)),
 vO 67 (.bin .or (.t 63) (.t 66)),
 vO 2 (.mov (.t 67)),
 vO 3 (.mov (.c (.int .i64 2)))]
def v91_36 : VCode := (.seq (.region false r91_35) (.keep [2, 3] (.weak .ret)))
def v91_37 : VCode := (.keep [0, 5, 8, 10] (.weak .skip))
def v91_38 : VCode := (.cond (.t 59) v91_36 v91_37)
def v91_39 : VCode := (.seq (.region false r91_34) (.keep [0, 5, 8, 10, 59] (.weak v91_38)))
def r91_40 : List VOper := [
 vO 68 (.mov (.t 0)),
 vO 69 (.indexStr (.t 68) (.c (.int .i64 2))),
 vO 11 (.mov (.t 69))]
def r91_41 : List VOper := [
 vO 70 (.mov (.t 11)),
 vO 71 (.bin .lss (.t 70) (.c (.int .u8 128))),
 vO 72 (.mov (.t 71)),
 vG 73 72 false (.mov (.t 11)),
 vG 74 72 false (.bin .lss (.c (.int .u8 191)) (.t 73)),
 vO 75 (.pick (.t 72) (.c (.bool true)) (.t 74))]
def r91_42 : List VOper := [
 vO 2 (.mov (.c (.int .i32 65533))),
 vO 3 (.mov (.c (.int .i64 1)))]
def v91_43 : VCode := (.seq (.region false r91_42) (.keep [2, 3] (.weak .ret)))
def v91_44 : VCode := (.keep [0, 5, 8, 10, 11] (.weak .skip))
def v91_45 : VCode := (.cond (.t 75) v91_43 v91_44)
def v91_46 : VCode := (.seq (.region false r91_41) (.keep [0, 5, 8, 10, 11, 75] (.weak v91_45)))
def r91_47 : List VOper := [
 vO 76 (.mov (.t 8)),
 vO 77 (.bin .leq (.t 76) (.c (.int .i64 3)))]
def r91_48 : List VOper := [
 vO 78 (.mov (.t 5)),
 vO 79 (.bin .and (.t 78) (.c (.int .u8 15))),
 vO 80 (.conv .i32 (.t 79)),
 vO 81 (.bin .shl (.t 80) (.c (.int .u64 12))),
 vO 82 (.mov (.t 10)),
 vO 83 (.bin .and (.t 82) (.c (.int .u8 63))),
 vO 84 (.conv .i32 (.t 83)),
 vO 85 (.bin .shl (.t 84) (.c (.int .u64 6))),
 vO 86 (.bin .or (.t 81) (.t 85)),
 vO 87 (.mov (.t 11)),
 vO 88 (.bin .and (.t 87) (.c (.int .u8 63))),
 vO 89 (.conv .i32 (.t 88)),
 vO 90 (.bin .or (.t 86) (.t 89)),
 vO 2 (.mov (.t 90)),
 vO 3 (.mov (.c (.int .i64 3)))]
def v91_49 : VCode := (.seq (.region false r91_48) (.keep [2, 3] (.weak .ret)))
def v91_50 : VCode := (.keep [0, 5, 10, 11] (.weak .skip))
def v91_51 : VCode := (.cond (.t 77) v91_49 v91_50)
def v91_52 : VCode := (.seq (.region false r91_47) (.keep [0, 5, 10, 11, 77] (.weak v91_51)))
def r91_53 : List VOper := [
 vO 91 (.mov (.t 0)),
 vO 92 (.indexStr (.t 91) (.c (.int .i64 3))),
 vO 12 (.mov (.t 92))]
def r91_54 : List VOper := [
 vO 93 (.mov (.t 12)),
 vO 94 (.bin .lss (.t 93) (.c (.int .u8 128))),
 vO 95 (.mov (.t 94)),
 vG 96 95 false (.mov (.t 12)),
 vG 97 95 false (.bin .lss (.c (.int .u8 191)) (.t 96)),
 vO 98 (.pick (.t 95) (.c (.bool true)) (.t 97))]
def r91_55 : List VOper := [
 vO 2 (.mov (.c (.int .i32 65533))),
 vO 3 (.mov (.c (.int .i64 1)))]
def v91_56 : VCode := (.seq (.region false r91_55) (.keep [2, 3] (.weak .ret)))
def v91_57 : VCode := (.keep [5, 10, 11, 12] (.weak .skip))
def v91_58 : VCode := (.cond (.t 98) v91_56 v91_57)
def v91_59 : VCode := (.seq (.region false r91_54) (.keep [5, 10, 11, 12, 98] (.weak v91_58)))
def r91_60 : List VOper := [
 vO 99 (.mov (.t 5)),
 vO 100 (.bin .and (.t 99) (.c (.int .u8 7))),
 vO 101 (.conv .i32 (.t 100)),
 vO 102 (.bin .shl (.t 101) (.c (.int .u64 18))),
 vO 103 (.mov (.t 10)),
 vO 104 (.bin .and (.t 103) (.c (.int .u8 63))),
 vO 105 (.conv .i32 (.t 104)),
 vO 106 (.bin .shl (.t 105) (.c (.int .u64 12))),
 vO 107 (.bin .or (.t 102) (.t 106)),
 vO 108 (.mov (.t 11)),
 vO 109 (.bin .and (.t 108) (.c (.int .u8 63))),
 vO 110 (.conv .i32 (.t 109)),
 vO 111 (.bin .shl (.t 110) (.c (.int .u64 6))),
 vO 112 (.bin .or (.t 107) (.t 111)),
 vO 113 (.mov (.t 12)),
 vO 114 (.bin .and (.t 113) (.c (.int .u8 63))),
 vO 115 (.conv .i32 (.t 114)),
 vO 116 (.bin .or (.t 112) (.t 115)),
 vO 2 (.mov (.t 116)),
 vO 3 (.mov (.c (.int .i64 4)))]
def v91_61 : VCode := (.seq (.region false r91_60) (.keep [2, 3] (.weak .ret)))
def v91_62 : VCode := (.seq v91_59 v91_61)
def v91_63 : VCode := (.seq (.region false r91_53) (.keep [5, 10, 11, 12] (.weak v91_62)))
def v91_64 : VCode := (.seq v91_52 v91_63)
def v91_65 : VCode := (.seq v91_46 v91_64)
def v91_66 : VCode := (.seq (.region false r91_40) (.keep [0, 5, 8, 10, 11] (.weak v91_65)))
def v91_67 : VCode := (.seq v91_39 v91_66)
def v91_68 : VCode := (.seq v91_33 v91_67)
def v91_69 : VCode := (.seq (.region false r91_27) (.keep [0, 5, 8, 9, 10] (.weak v91_68)))
def v91_70 : VCode := (.seq v91_26 v91_69)
def v91_71 : VCode := (.seq (.region false r91_20) (.keep [0, 4, 5, 8, 9] (.weak v91_70)))
def v91_72 : VCode := (.seq (.region false r91_19) (.keep [0, 4, 5, 6, 8] (.weak v91_71)))
def v91_73 : VCode := (.seq v91_18 v91_72)
def v91_74 : VCode := (.seq (.region false r91_10) (.keep [0, 4, 5, 6] (.weak v91_73)))
def v91_75 : VCode := (.seq (.region false r91_9) (.keep [0, 4, 5] (.weak v91_74)))
def v91_76 : VCode := (.seq v91_8 v91_75)
def v91_77 : VCode := (.seq (.region false r91_2) (.keep [0, 4] (.weak v91_76)))
def v91 : VCode := (.seq (.region false r91_1) (.keep [0] (.weak v91_77)))
theorem hv91 : codeOf Tryd.prog Tryd.f91.ntmps v91 (Tryd.f91.body.getD .skip) = some v91 := by kernel_rfl
theorem ok91 {ds : List PV} {r : PV} {fl : Bool} (h : vwp Tryd.prog v91 (retQ [(2, none), (3, none)] r fl) (initSt ds)) : CallOK Tryd.prog 91 ds r fl :=
  fn_ok Tryd.func91 rfl (by decide) hv91 rfl mixed h

/- unicode_utf8_DecodeRuneInString -/
def r86_1 : List VOper := [
 vO 2 (.mov (.c (.int .i32 0))),
 vO 3 (.mov (.c (.int .i64 0)))]
def r86_2 : List VOper := [
 vO 4 (.mov (.t 0)),
 vO 5 (.bin .neq (.t 4) (.c (.str []))),
 vO 6 (.mov (.t 5)),
 vG 7 6 true (.mov (.t 0)),
 vG 8 6 true (.indexStr (.t 7) (.c (.int .i64 0))),
 vG 9 6 true (.bin .lss (.t 8) (.c (.int .u8 128))),
 vO 10 (.pick (.t 6) (.t 9) (.c (.bool false)))]
def r86_3 : List VOper := [
 vO 11 (.mov (.t 0)),
 vO 12 (.indexStr (.t 11) (.c (.int .i64 0))),
 vO 13 (.conv .i32 (.t 12)),
 vO 2 (.mov (.t 13)),
 vO 3 (.mov (.c (.int .i64 1)))]
def v86_4 : VCode := (.seq (.region false r86_3) (.keep [2, 3] (.weak .ret)))
def r86_5 : List VOper := [
 vO 15 (.mov (.t 0)),
 vO 16 (.call 91 [(.t 15)]),
 vO 14 (.mov (.t 16)),
 vO 17 (.extract (.t 14) 0),
 vO 18 (.extract (.t 14) 1),
 vO 2 (.mov (.t 17)),
 vO 3 (.mov (.t 18))]
def v86_6 : VCode := (.post [2, 3] (.region false r86_5))
def v86_7 : VCode := (.cond (.t 10) v86_4 v86_6)
def v86_8 : VCode := (.seq (.region false r86_2) (.keep [0, 10] (.weak v86_7)))
def v86_9 : VCode := (.seq v86_8 .ret)
def v86 : VCode := (.seq (.region false r86_1) (.keep [0] (.weak v86_9)))
theorem hv86 : codeOf Tryd.prog Tryd.f86.ntmps v86 (Tryd.f86.body.getD .skip) = some v86 := by kernel_rfl
theorem ok86 {ds : List PV} {r : PV} {fl : Bool} (h : vwp Tryd.prog v86 (retQ [(2, none), (3, none)] r fl) (initSt ds)) : CallOK Tryd.prog 86 ds r fl :=
  fn_ok Tryd.func86 rfl (by decide) hv86 rfl mixed h

/- strings_explode -/
def r80_1 : List VOper := [
 vO 4 (.mov (.c (.nilsl)))]
def r80_2 : List VOper := [
 vO 10 (.mov (.t 0)),
 vO 11 (.call 85 [(.t 10)]),
 vO 5 (.mov (.t 11))]
def r80_3 : List VOper := [
 vO 12 (.mov (.t 1)),
 vO 13 (.bin .lss (.t 12) (.c (.int .i64 0))),
 vO 14 (.mov (.t 13)),
 vG 15 14 false (.mov (.t 1)),
 vG 16 14 false (.mov (.t 5)),
 vG 17 14 false (.bin .gtr (.t 15) (.t 16)),
 vO 18 (.pick (.t 14) (.c (.bool true)) (.t 17))]
def r80_4 : List VOper := [
 vO 19 (.mov (.t 5)),
 vO 1 (.mov (.t 19))]
def v80_5 : VCode := (.post [0, 1] (.region false r80_4))
def v80_6 : VCode := (.keep [0, 1] (.weak .skip))
def v80_7 : VCode := (.cond (.t 18) v80_5 v80_6)
def v80_8 : VCode := (.seq (.region false r80_3) (.keep [0, 1, 5, 18] (.weak v80_7)))
def r80_9 : List VOper := [
 vO 20 (.mov (.t 1)),
 vO 21 (.makeSlice none 16 (.str []) (.t 20) (.t 20)),
 vO 6 (.mov (.t 21))]
def r80_10 : List VOper := [
 vO 7 (.mov (.c (.int .i64 0)))]
def r80_11 : List VOper := [
 vO 22 (.mov (.t 7)),
 vO 23 (.mov (.t 1)),
 vO 24 (.bin .sub (.t 23) (.c (.int .i64 1))),
 vO 25 (.bin .lss (.t 22) (.t 24))]
def v80_12 : VCode := (.keep [0, 1, 6, 7] (.weak .skip))
def v80_13 : VCode := (.keep [0, 1, 6] (.weak (.exit 0)))
def v80_14 : VCode := (.cond (.t 25) v80_12 v80_13)
def v80_15 : VCode := (.seq (.region false r80_11) (.keep [0, 1, 6, 7, 25] (.weak v80_14)))
def r80_16 : List VOper := [
 vO 29 (.mov (.t 0)),
 vO 30 (.call 86 [(.t 29)]),
 vO 28 (.mov (.t 30)),
 vO 31 (.extract (.t 28) 0),
 vO 32 (.extract (.t 28) 1),
 vO 8 (.mov (.t 31)),
 vO 9 (.mov (.t 32))]
def r80_17 : List VOper := [
 vO 33 (.mov (.t 6)),
 vO 34 (.mov (.t 7)),
 vO 35 (.mov (.t 0)),
 vO 36 (.mov (.t 9)),
 vO 37 (.slStr (.t 35) none (some (.t 36))),
 vO 38 (.indexAddr none (.t 33) (.t 34)),
 { dst := none, op := .store none (.t 38) (.t 37) }]
def r80_18 : List VOper := [
 vO 39 (.mov (.t 0)),
 vO 40 (.mov (.t 9)),
 vO 41 (.slStr (.t 39) (some (.t 40)) none),
 vO 0 (.mov (.t 41))]
def v80_19 : VCode := (.post [0, 1, 6, 7] (.region false r80_18))
def v80_20 : VCode := (.seq (.region false r80_17) (.keep [0, 1, 6, 7, 9] (.weak v80_19)))
def v80_21 : VCode := (.seq (.region false r80_16) (.keep [0, 1, 6, 7, 9] (.weak v80_20)))
def v80_22 : VCode := (.block 1 v80_21)
def r80_23 : List VOper := [
 vO 26 (.mov (.t 7)),
 vO 27 (.bin .add (.t 26) (.c (.int .i64 1))),
 vO 7 (.mov (.t 27))]
def v80_24 : VCode := (.post [0, 1, 6, 7] (.region false r80_23))
def v80_25 : VCode := (.seq v80_22 v80_24)
def v80_26 : VCode := (.seq v80_15 v80_25)
def v80_27 : VCode := (.loop [0, 1, 6, 7] v80_26)
def v80_28 : VCode := (.keep [0, 1, 6, 7] (.weak v80_27))
def v80_29 : VCode := (.block 0 v80_28)
def v80_30 : VCode := (.seq (.region false r80_10) (.keep [0, 1, 6, 7] (.weak v80_29)))
def r80_31 : List VOper := [
 vO 42 (.mov (.t 1)),
 vO 43 (.bin .gtr (.t 42) (.c (.int .i64 0)))]
def r80_32 : List VOper := [
 vO 44 (.mov (.t 6)),
 vO 45 (.mov (.t 1)),
 vO 46 (.bin .sub (.t 45) (.c (.int .i64 1))),
 vO 47 (.mov (.t 0)),
 vO 48 (.indexAddr none (.t 44) (.t 46)),
 { dst := none, op := .store none (.t 48) (.t 47) }]
def v80_33 : VCode := (.post [6] (.region false r80_32))
def v80_34 : VCode := (.keep [6] (.weak .skip))
def v80_35 : VCode := (.cond (.t 43) v80_33 v80_34)
def v80_36 : VCode := (.seq (.region false r80_31) (.keep [0, 1, 6, 43] (.weak v80_35)))
def r80_37 : List VOper := [
 vO 49 (.mov (.t 6)),
 vO 4 (.mov (.t 49))]
def v80_38 : VCode := (.seq (.region false r80_37) (.keep [4] (.weak .ret)))
def v80_39 : VCode := (.seq v80_36 v80_38)
def v80_40 : VCode := (.seq v80_30 v80_39)
def v80_41 : VCode := (.seq (.region false r80_9) (.keep [0, 1, 6] (.weak v80_40)))
def v80_42 : VCode := (.seq v80_8 v80_41)
def v80_43 : VCode := (.seq (.region false r80_2) (.keep [0, 1, 5] (.weak v80_42)))
def v80 : VCode := (.seq (.region false r80_1) (.keep [0, 1] (.weak v80_43)))
theorem hv80 : codeOf Tryd.prog Tryd.f80.ntmps v80 (Tryd.f80.body.getD .skip) = some v80 := by kernel_rfl
theorem ok80 {ds : List PV} {r : PV} {fl : Bool} (h : vwp Tryd.prog v80 (retQ [(4, none)] r fl) (initSt ds)) : CallOK Tryd.prog 80 ds r fl :=
  fn_ok Tryd.func80 rfl (by decide) hv80 rfl mixed h

/- strings_genSplit -/
def r76_1 : List VOper := [
 vO 8 (.mov (.c (.nilsl)))]
def r76_2 : List VOper := [
 vO 12 (.mov (.t 3)),
 vO 13 (.bin .eql (.t 12) (.c (.int .i64 0)))]
def r76_3 : List VOper := [
 vO 8 (.mov (.c (.nilsl)))]
def v76_4 : VCode := (.seq (.region false r76_3) (.keep [8] (.weak .ret)))
def v76_5 : VCode := (.keep [0, 1, 2, 3] (.weak .skip))
def v76_6 : VCode := (.cond (.t 13) v76_4 v76_5)
def v76_7 : VCode := (.seq (.region false r76_2) (.keep [0, 1, 2, 3, 13] (.weak v76_6)))
def r76_8 : List VOper := [
 vO 14 (.mov (.t 1)),
 vO 15 (.bin .eql (.t 14) (.c (.str [])))]
def r76_9 : List VOper := [
 vO 16 (.mov (.t 0)),
 vO 17 (.mov (.t 3)),
 vO 18 (.call 80 [(.t 16), (.t 17)]),
 vO 8 (.mov (.t 18))]
def v76_10 : VCode := (.seq (.region false r76_9) (.keep [8] (.weak .ret)))
def v76_11 : VCode := (.keep [0, 1, 2, 3] (.weak .skip))
def v76_12 : VCode := (.cond (.t 15) v76_10 v76_11)
def v76_13 : VCode := (.seq (.region false r76_8) (.keep [0, 1, 2, 3, 15] (.weak v76_12)))
def r76_14 : List VOper := [
 vO 19 (.mov (.t 3)),
 vO 20 (.bin .lss (.t 19) (.c (.int .i64 0)))]
def r76_15 : List VOper := [
 vO 21 (.mov (.t 0)),
 vO 22 (.mov (.t 1)),
 vO 23 (.call 81 [(.t 21), (.t 22)]),
 vO 24 (.bin .add (.t 23) (.c (.int .i64 1))),
 vO 3 (.mov (.t 24))]
def v76_16 : VCode := (.post [0, 1, 2, 3] (.region false r76_15))
def v76_17 : VCode := (.keep [0, 1, 2, 3] (.weak .skip))
def v76_18 : VCode := (.cond (.t 20) v76_16 v76_17)
def v76_19 : VCode := (.seq (.region false r76_14) (.keep [0, 1, 2, 3, 20] (.weak v76_18)))
def r76_20 : List VOper := [
 vO 25 (.mov (.t 3)),
 vO 26 (.mov (.t 0)),
 vO 27 (.lenStr (.t 26)),
 vO 28 (.bin .add (.t 27) (.c (.int .i64 1))),
 vO 29 (.minmax false [(.t 25), (.t 28)]),
 vO 3 (.mov (.t 29))]
def r76_21 : List VOper := [
 vO 30 (.mov (.t 3)),
 vO 31 (.makeSlice none 16 (.str []) (.t 30) (.t 30)),
 vO 9 (.mov (.t 31))]
def r76_22 : List VOper := [
 vO 32 (.mov (.t 3)),
 vO 33 (.bin .sub (.t 32) (.c (.int .i64 1))),
 vO 3 (.mov (.t 33))]
def r76_23 : List VOper := [
 vO 10 (.mov (.c (.int .i64 0)))]
def r76_24 : List VOper := [
 vO 34 (.mov (.t 10)),
 vO 35 (.mov (.t 3)),
 vO 36 (.bin .lss (.t 34) (.t 35))]
def v76_25 : VCode := (.keep [0, 1, 2, 3, 9, 10] (.weak .skip))
def v76_26 : VCode := (.keep [0, 9, 10] (.weak (.exit 0)))
def v76_27 : VCode := (.cond (.t 36) v76_25 v76_26)
def v76_28 : VCode := (.seq (.region false r76_24) (.keep [0, 1, 2, 3, 9, 10, 36] (.weak v76_27)))
def r76_29 : List VOper := [
 vO 37 (.mov (.t 0)),
 vO 38 (.mov (.t 1)),
 vO 39 (.call 82 [(.t 37), (.t 38)]),
 vO 11 (.mov (.t 39))]
def r76_30 : List VOper := [
 vO 40 (.mov (.t 11)),
 vO 41 (.bin .lss (.t 40) (.c (.int .i64 0)))]
def v76_31 : VCode := (.keep [0, 9, 10] (.weak (.exit 0)))
def v76_32 : VCode := (.keep [0, 1, 2, 3, 9, 10, 11] (.weak .skip))
def v76_33 : VCode := (.cond (.t 41) v76_31 v76_32)
def v76_34 : VCode := (.seq (.region false r76_30) (.keep [0, 1, 2, 3, 9, 10, 11, 41] (.weak v76_33)))
def r76_35 : List VOper := [
 vO 42 (.mov (.t 9)),
 vO 43 (.mov (.t 10)),
 vO 44 (.mov (.t 0)),
 vO 45 (.mov (.t 11)),
 vO 46 (.mov (.t 2)),
 vO 47 (.bin .add (.t 45) (.t 46)),
 vO 48 (.slStr (.t 44) none (some (.t 47))),
 vO 49 (.indexAddr none (.t 42) (.t 43)),
 { dst := none, op := .store none (.t 49) (.t 48) }]
def r76_36 : List VOper := [
 vO 50 (.mov (.t 0)),
 vO 51 (.mov (.t 11)),
 vO 52 (.mov (.t 1)),
 vO 53 (.lenStr (.t 52)),
 vO 54 (.bin .add (.t 51) (.t 53)),
 vO 55 (.slStr (.t 50) (some (.t 54)) none),
 vO 0 (.mov (.t 55))]
def r76_37 : List VOper := [
 vO 56 (.mov (.t 10)),
 vO 57 (.bin .add (.t 56) (.c (.int .i64 1))),
 vO 10 (.mov (.t 57))]
def v76_38 : VCode := (.post [0, 1, 2, 3, 9, 10] (.region false r76_37))
def v76_39 : VCode := (.seq (.region false r76_36) (.keep [0, 1, 2, 3, 9, 10] (.weak v76_38)))
def v76_40 : VCode := (.seq (.region false r76_35) (.keep [0, 1, 2, 3, 9, 10, 11] (.weak v76_39)))
def v76_41 : VCode := (.seq v76_34 v76_40)
def v76_42 : VCode := (.seq (.region false r76_29) (.keep [0, 1, 2, 3, 9, 10, 11] (.weak v76_41)))
def v76_43 : VCode := (.block 1 v76_42)
def v76_44 : VCode := (.seq v76_28 v76_43)
def v76_45 : VCode := (.loop [0, 1, 2, 3, 9, 10] v76_44)
def v76_46 : VCode := (.keep [0, 1, 2, 3, 9, 10] (.weak v76_45))
def v76_47 : VCode := (.block 0 v76_46)
def r76_48 : List VOper := [
 vO 58 (.mov (.t 9)),
 vO 59 (.mov (.t 10)),
 vO 60 (.mov (.t 0)),
 vO 61 (.indexAddr none (.t 58) (.t 59)),
 { dst := none, op := .store none (.t 61) (.t 60) }]
def r76_49 : List VOper := [
 vO 62 (.mov (.t 9)),
 vO 63 (.mov (.t 10)),
 vO 64 (.bin .add (.t 63) (.c (.int .i64 1))),
 vO 65 (.slSl none (.t 62) none (some (.t 64))),
 vO 8 (.mov (.t 65))]
def v76_50 : VCode := (.seq (.region false r76_49) (.keep [8] (.weak .ret)))
def v76_51 : VCode := (.seq (.region false r76_48) (.keep [9, 10] (.weak v76_50)))
def v76_52 : VCode := (.seq v76_47 v76_51)
def v76_53 : VCode := (.seq (.region false r76_23) (.keep [0, 1, 2, 3, 9, 10] (.weak v76_52)))
def v76_54 : VCode := (.seq (.region false r76_22) (.keep [0, 1, 2, 3, 9] (.weak v76_53)))
def v76_55 : VCode := (.seq (.region false r76_21) (.keep [0, 1, 2, 3, 9] (.weak v76_54)))
def v76_56 : VCode := (.seq (.region false r76_20) (.keep [0, 1, 2, 3] (.weak v76_55)))
def v76_57 : VCode := (.seq v76_19 v76_56)
def v76_58 : VCode := (.seq v76_13 v76_57)
def v76_59 : VCode := (.seq v76_7 v76_58)
def v76 : VCode := (.seq (.region false r76_1) (.keep [0, 1, 2, 3] (.weak v76_59)))
theorem hv76 : codeOf Tryd.prog Tryd.f76.ntmps v76 (Tryd.f76.body.getD .skip) = some v76 := by kernel_rfl
theorem ok76 {ds : List PV} {r : PV} {fl : Bool} (h : vwp Tryd.prog v76 (retQ [(8, none)] r fl) (initSt ds)) : CallOK Tryd.prog 76 ds r fl :=
  fn_ok Tryd.func76 rfl (by decide) hv76 rfl mixed h

/- strings_Split -/
def r73_1 : List VOper := [
 vO 4 (.mov (.c (.nilsl)))]
def r73_2 : List VOper := [
 vO 5 (.mov (.t 0)),
 vO 6 (.mov (.t 1)),
 vO 7 (.call 76 [(.t 5), (.t 6), (.c (.int .i64 0)), (.c (.int .i64 (-1)))]),
 vO 4 (.mov (.t 7))]
def v73_3 : VCode := (.seq (.region false r73_2) (.keep [4] (.weak .ret)))
def v73 : VCode := (.seq (.region false r73_1) (.keep [0, 1] (.weak v73_3)))
theorem hv73 : codeOf Tryd.prog Tryd.f73.ntmps v73 (Tryd.f73.body.getD .skip) = some v73 := by kernel_rfl
theorem ok73 {ds : List PV} {r : PV} {fl : Bool} (h : vwp Tryd.prog v73 (retQ [(4, none)] r fl) (initSt ds)) : CallOK Tryd.prog 73 ds r fl :=
  fn_ok Tryd.func73 rfl (by decide) hv73 rfl mixed h

/- stringslite_HasPrefix -/
def r75_1 : List VOper := [
 vO 4 (.mov (.c (.bool false)))]
def r75_2 : List VOper := [
 vO 5 (.mov (.t 0)),
 vO 6 (.lenStr (.t 5)),
 vO 7 (.mov (.t 1)),
 vO 8 (.lenStr (.t 7)),
 vO 9 (.bin .geq (.t 6) (.t 8)),
 vO 10 (.mov (.t 9)),
 vG 11 10 true (.mov (.t 0)),
 vG 12 10 true (.mov (.t 1)),
 vG 13 10 true (.lenStr (.t 12)),
 vG 14 10 true (.slStr (.t 11) none (some (.t 13))),
 vG 15 10 true (.mov (.t 1)),
 vG 16 10 true (.bin .eql (.t 14) (.t 15)),
 vO 17 (.pick (.t 10) (.t 16) (.c (.bool false))),
 vO 4 (.mov (.t 17))]
def v75_3 : VCode := (.seq (.region false r75_2) (.keep [4] (.weak .ret)))
def v75 : VCode := (.seq (.region false r75_1) (.keep [0, 1] (.weak v75_3)))
theorem hv75 : codeOf Tryd.prog Tryd.f75.ntmps v75 (Tryd.f75.body.getD .skip) = some v75 := by kernel_rfl
theorem ok75 {ds : List PV} {r : PV} {fl : Bool} (h : vwp Tryd.prog v75 (retQ [(4, none)] r fl) (initSt ds)) : CallOK Tryd.prog 75 ds r fl :=
  fn_ok Tryd.func75 rfl (by decide) hv75 rfl mixed h

/- strings_HasPrefix -/
def r72_1 : List VOper := [
 vO 4 (.mov (.c (.bool false)))]
def r72_2 : List VOper := [
 vO 5 (.mov (.t 0)),
 vO 6 (.mov (.t 1)),
 vO 7 (.call 75 [(.t 5), (.t 6)]),
 vO 4 (.mov (.t 7))]
def v72_3 : VCode := (.seq (.region false r72_2) (.keep [4] (.weak .ret)))
def v72 : VCode := (.seq (.region false r72_1) (.keep [0, 1] (.weak v72_3)))
theorem hv72 : codeOf Tryd.prog Tryd.f72.ntmps v72 (Tryd.f72.body.getD .skip) = some v72 := by kernel_rfl
theorem ok72 {ds : List PV} {r : PV} {fl : Bool} (h : vwp Tryd.prog v72 (retQ [(4, none)] r fl) (initSt ds)) : CallOK Tryd.prog 72 ds r fl :=
  fn_ok Tryd.func72 rfl (by decide) hv72 rfl mixed h

/- path_rooted -/
def r68_1 : List VOper := [
 vO 2 (.mov (.c (.bool false)))]
def r68_2 : List VOper := [
 vO 3 (.mov (.t 0)),
 vO 4 (.call 72 [(.t 3), (.c (.str [47]))]),
 vO 2 (.mov (.t 4))]
def v68_3 : VCode := (.seq (.region false r68_2) (.keep [2] (.weak .ret)))
def v68 : VCode := (.seq (.region false r68_1) (.keep [0] (.weak v68_3)))
theorem hv68 : codeOf Tryd.prog Tryd.f68.ntmps v68 (Tryd.f68.body.getD .skip) = some v68 := by kernel_rfl
theorem ok68 {ds : List PV} {r : PV} {fl : Bool} (h : vwp Tryd.prog v68 (retQ [(2, none)] r fl) (initSt ds)) : CallOK Tryd.prog 68 ds r fl :=
  fn_ok Tryd.func68 rfl (by decide) hv68 rfl mixed h

/- path_Split -/
def r69_1 : List VOper := [
 vO 2 (.mov (.c (.nilsl))),
 vO 3 (.mov (.c (.int .i64 0)))]
def r69_2 : List VOper := [
 vO 8 (.mov (.t 0)),
 vO 9 (.lenStr (.t 8)),
 vO 10 (.bin .gtr (.t 9) (.c (.int .i64 1024)))]
def r69_3 : List VOper := [
 vO 2 (.mov (.c (.nilsl))),
 vO 3 (.mov (.c (.int .i64 4)))]
def v69_4 : VCode := (.seq (.region false r69_3) (.keep [2, 3] (.weak .ret)))
def v69_5 : VCode := (.keep [0] (.weak .skip))
def v69_6 : VCode := (.cond (.t 10) v69_4 v69_5)
def v69_7 : VCode := (.seq (.region false r69_2) (.keep [0, 10] (.weak v69_6)))
def r69_8 : List VOper := [
 vO 4 (.mov (.c (.nilsl)))]
def r69_9 : List VOper := [
 vO 11 (.mov (.t 0)),
 vO 12 (.call 73 [(.t 11), (.c (.str [47]))]),
 vO 13 (.lenSl (.t 12)),
 vO 14 (.mov (.c (.int .i64 0)))]
def r69_10 : List VOper := [
 vO 15 (.bin .lss (.t 14) (.t 13))]
def v69_11 : VCode := (.keep [0, 4, 12, 13, 14] (.weak .skip))
def v69_12 : VCode := (.keep [4] (.weak (.exit 0)))
def v69_13 : VCode := (.cond (.t 15) v69_11 v69_12)
def r69_14 : List VOper := [
 vO 16 (.indexAddr none (.t 12) (.t 14)),
 vO 17 (.load none (.t 16)),
 vO 6 (.mov (.t 17))]
def r69_15 : List VOper := [
 vO 18 (.mov (.t 4)),
 vO 19 (.lenSl (.t 18)),
 vO 20 (.bin .sub (.t 19) (.c (.int .i64 1))),
 vO 7 (.mov (.t 20))]
def r69_16 : List VOper := [
 vO 26 (.mov (.t 6)),
 vO 27 (.bin .eql (.t 26) (.c (.str []))),
 vO 28 (.mov (.t 27)),
 vG 29 28 false (.mov (.t 6)),
 vG 30 28 false (.bin .eql (.t 29) (.c (.str [46]))),
 vO 31 (.pick (.t 28) (.c (.bool true)) (.t 30)),
 vO 25 (.mov (.t 31))]
def v69_17 : VCode := (.keep [0, 4, 12, 13, 14] (.weak .skip))
def r69_18 : List VOper := [
 vO 33 (.mov (.t 6)),
 vO 34 (.bin .eql (.t 33) (.c (.str [46, 46]))),
 vO 35 (.mov (.t 34)),
 vG 36 35 true (.mov (.t 7)),
 vG 37 35 true (.bin .geq (.t 36) (.c (.int .i64 0))),
 vO 38 (.pick (.t 35) (.t 37) (.c (.bool false))),
 vO 39 (.mov (.t 38)),
 vG 40 39 true (.mov (.t 4)),
 vG 41 39 true (.mov (.t 7)),
 vG 42 39 true (.indexAddr none (.t 40) (.t 41)),
 vG 43 39 true (.load none (.t 42)),
 vG 44 39 true (.bin .neq (.t 43) (.c (.str [46, 46]))),
 vO 45 (.pick (.t 39) (.t 44) (.c (.bool false))),
 vO 32 (.mov (.t 45))]
def r69_19 : List VOper := [
 vO 46 (.mov (.t 4)),
 vO 47 (.mov (.t 7)),
 vO 48 (.slSl none (.t 46) none (some (.t 47))),
 vO 4 (.mov (.t 48))]
def v69_20 : VCode := (.post [0, 4, 12, 13, 14] (.region false r69_19))
def r69_21 : List VOper := [
 vO 50 (.mov (.t 6)),
 vO 51 (.bin .eql (.t 50) (.c (.str [46, 46]))),
 vO 49 (.mov (.t 51))]
def r69_22 : List VOper := [
 vO 52 (.mov (.t 0)),
 vO 53 (.call 68 [(.t 52)]),
 vO 54 (.not (.t 53))]
def r69_23 : List VOper := [
 vO 55 (.mov (.t 4)),
 vO 56 (.mov (.t 6)),
 vO 57 (.buildSlice none (.str []) 1 [(0, (.t 56))]),
 vO 58 (.append none 16 (.t 55) (.t 57)),
 vO 4 (.mov (.t 58))]
def v69_24 : VCode := (.post [0, 4, 12, 13, 14] (.region false r69_23))
def v69_25 : VCode := (.keep [0, 4, 12, 13, 14] (.weak .skip))
def v69_26 : VCode := (.cond (.t 54) v69_24 v69_25)
def v69_27 : VCode := (.seq (.region false r69_22) (.keep [0, 4, 6, 12, 13, 14, 54] (.weak v69_26)))
def r69_28 : List VOper := [
 vO 60 (.mov (.t 6)),
 vO 61 (.call 54 [(.t 60)]),
 vO 62 (.not (.t 61)),
 vO 59 (.mov (.t 62))]
def r69_29 : List VOper := [
 vO 2 (.mov (.c (.nilsl))),
 vO 3 (.mov (.c (.int .i64 6)))]
def v69_30 : VCode := (.seq (.region false r69_29) (.keep [2, 3] (.weak .ret)))
def r69_31 : List VOper := [
 vO 21 (.mov (.t 4)),
 vO 22 (.mov (.t 6)),
 vO 23 (.buildSlice none (.str []) 1 [(0, (.t 22))]),
 vO 24 (.append none 16 (.t 21) (.t 23)),
 vO 4 (.mov (.t 24))]
def v69_32 : VCode := (.post [0, 4, 12, 13, 14] (.region false r69_31))
def v69_33 : VCode := (.cond (.t 59) v69_30 v69_32)
def v69_34 : VCode := (.seq (.region false r69_28) (.keep [0, 4, 6, 12, 13, 14, 59] (.weak v69_33)))
def v69_35 : VCode := (.cond (.t 49) v69_27 v69_34)
def v69_36 : VCode := (.seq (.region false r69_21) (.keep [0, 4, 6, 12, 13, 14, 49] (.weak v69_35)))
def v69_37 : VCode := (.cond (.t 32) v69_20 v69_36)
def v69_38 : VCode := (.seq (.region false r69_18) (.keep [0, 4, 6, 7, 12, 13, 14, 32] (.weak v69_37)))
def v69_39 : VCode := (.cond (.t 25) v69_17 v69_38)
def v69_40 : VCode := (.seq (.region false r69_16) (.keep [0, 4, 6, 7, 12, 13, 14, 25] (.weak v69_39)))
def v69_41 : VCode := (.block 2 v69_40)
def v69_42 : VCode := (.seq (.region false r69_15) (.keep [0, 4, 6, 7, 12, 13, 14] (.weak v69_41)))
def v69_43 : VCode := (.seq (.region false r69_14) (.keep [0, 4, 6, 12, 13, 14] (.weak v69_42)))
def v69_44 : VCode := (.block 1 v69_43)
def r69_45 : List VOper := [
 vO 63 (.bin .add (.t 14) (.c (.int .i64 1))),
 vO 14 (.mov (.t 63))]
def v69_46 : VCode := (.post [0, 4, 12, 13, 14] (.region false r69_45))
def v69_47 : VCode := (.seq v69_44 v69_46)
def v69_48 : VCode := (.seq v69_13 v69_47)
def v69_49 : VCode := (.seq (.region false r69_10) (.keep [0, 4, 12, 13, 14, 15] (.weak v69_48)))
def v69_50 : VCode := (.loop [0, 4, 12, 13, 14] v69_49)
def v69_51 : VCode := (.keep [0, 4, 12, 13, 14] (.weak v69_50))
def v69_52 : VCode := (.block 0 v69_51)
def v69_53 : VCode := (.seq (.region false r69_9) (.keep [0, 4, 12, 13, 14] (.weak v69_52)))
def r69_54 : List VOper := [
 vO 64 (.mov (.t 4)),
 vO 65 (.lenSl (.t 64)),
 vO 66 (.bin .gtr (.t 65) (.c (.int .i64 32)))]
def r69_55 : List VOper := [
 vO 2 (.mov (.c (.nilsl))),
 vO 3 (.mov (.c (.int .i64 4)))]
def v69_56 : VCode := (.seq (.region false r69_55) (.keep [2, 3] (.weak .ret)))
def v69_57 : VCode := (.keep [4] (.weak .skip))
def v69_58 : VCode := (.cond (.t 66) v69_56 v69_57)
def v69_59 : VCode := (.seq (.region false r69_54) (.keep [4, 66] (.weak v69_58)))
def r69_60 : List VOper := [
 vO 67 (.mov (.t 4)),
 vO 2 (.mov (.t 67)),
 vO 3 (.mov (.c (.int .i64 0)))]
def v69_61 : VCode := (.seq (.region false r69_60) (.keep [2, 3] (.weak .ret)))
def v69_62 : VCode := (.seq v69_59 v69_61)
def v69_63 : VCode := (.seq v69_53 v69_62)
def v69_64 : VCode := (.seq (.region false r69_8) (.keep [0, 4] (.weak v69_63)))
def v69_65 : VCode := (.seq v69_7 v69_64)
def v69 : VCode := (.seq (.region false r69_1) (.keep [0] (.weak v69_65)))
theorem hv69 : codeOf Tryd.prog Tryd.f69.ntmps v69 (Tryd.f69.body.getD .skip) = some v69 := by kernel_rfl
theorem ok69 {ds : List PV} {r : PV} {fl : Bool} (h : vwp Tryd.prog v69 (retQ [(2, none), (3, none)] r fl) (initSt ds)) : CallOK Tryd.prog 69 ds r fl :=
  fn_ok Tryd.func69 rfl (by decide) hv69 rfl mixed h

/- path_build -/
def r70_1 : List VOper := [
 vO 4 (.mov (.c (.str [])))]
def r70_2 : List VOper := [
 vO 6 (.mov (.t 1)),
 vO 5 (.mov (.t 6))]
def r70_3 : List VOper := [
 vO 7 (.mov (.t 0)),
 vO 8 (.call 74 [(.t 7), (.c (.str [47]))]),
 vO 9 (.bin .add (.c (.str [47])) (.t 8)),
 vO 4 (.mov (.t 9))]
def v70_4 : VCode := (.seq (.region false r70_3) (.keep [4] (.weak .ret)))
def r70_5 : List VOper := [
 vO 11 (.mov (.t 0)),
 vO 12 (.lenSl (.t 11)),
 vO 13 (.bin .eql (.t 12) (.c (.int .i64 0))),
 vO 10 (.mov (.t 13))]
def r70_6 : List VOper := [
 vO 4 (.mov (.c (.str [46])))]
def v70_7 : VCode := (.seq (.region false r70_6) (.keep [4] (.weak .ret)))
def v70_8 : VCode := (.keep [0] (.weak .skip))
def v70_9 : VCode := (.cond (.t 10) v70_7 v70_8)
def v70_10 : VCode := (.seq (.region false r70_5) (.keep [0, 10] (.weak v70_9)))
def v70_11 : VCode := (.cond (.t 5) v70_4 v70_10)
def v70_12 : VCode := (.seq (.region false r70_2) (.keep [0, 5] (.weak v70_11)))
def v70_13 : VCode := (.block 0 v70_12)
def r70_14 : List VOper := [
 vO 14 (.mov (.t 0)),
 vO 15 (.call 74 [(.t 14), (.c (.str [47]))]),
 vO 4 (.mov (.t 15))]
def v70_15 : VCode := (.seq (.region false r70_14) (.keep [4] (.weak .ret)))
def v70_16 : VCode := (.seq v70_13 v70_15)
def v70 : VCode := (.seq (.region false r70_1) (.keep [0, 1] (.weak v70_16)))
theorem hv70 : codeOf Tryd.prog Tryd.f70.ntmps v70 (Tryd.f70.body.getD .skip) = some v70 := by kernel_rfl
theorem ok70 {ds : List PV} {r : PV} {fl : Bool} (h : vwp Tryd.prog v70 (retQ [(4, none)] r fl) (initSt ds)) : CallOK Tryd.prog 70 ds r fl :=
  fn_ok Tryd.func70 rfl (by decide) hv70 rfl mixed h

/- path_Clean -/
def r65_1 : List VOper := [
 vO 2 (.mov (.c (.str []))),
 vO 3 (.mov (.c (.int .i64 0)))]
def r65_2 : List VOper := [
 vO 7 (.mov (.t 0)),
 vO 8 (.call 69 [(.t 7)]),
 vO 6 (.mov (.t 8)),
 vO 9 (.extract (.t 6) 0),
 vO 10 (.extract (.t 6) 1),
 vO 4 (.mov (.t 9)),
 vO 5 (.mov (.t 10))]
def r65_3 : List VOper := [
 vO 11 (.mov (.t 5)),
 vO 12 (.bin .neq (.t 11) (.c (.int .i64 0)))]
def r65_4 : List VOper := [
 vO 13 (.mov (.t 5)),
 vO 2 (.mov (.c (.str []))),
 vO 3 (.mov (.t 13))]
def v65_5 : VCode := (.seq (.region false r65_4) (.keep [2, 3] (.weak .ret)))
def v65_6 : VCode := (.keep [0, 4] (.weak .skip))
def v65_7 : VCode := (.cond (.t 12) v65_5 v65_6)
def v65_8 : VCode := (.seq (.region false r65_3) (.keep [0, 4, 5, 12] (.weak v65_7)))
def r65_9 : List VOper := [
 vO 14 (.mov (.t 4)),
 vO 15 (.mov (.t 0)),
 vO 16 (.call 68 [(.t 15)]),
 vO 17 (.call 70 [(.t 14), (.t 16)]),
 vO 2 (.mov (.t 17)),
 vO 3 (.mov (.c (.int .i64 0)))]
def v65_10 : VCode := (.seq (.region false r65_9) (.keep [2, 3] (.weak .ret)))
def v65_11 : VCode := (.seq v65_8 v65_10)
def v65_12 : VCode := (.seq (.region false r65_2) (.keep [0, 4, 5] (.weak v65_11)))
def v65 : VCode := (.seq (.region false r65_1) (.keep [0] (.weak v65_12)))
theorem hv65 : codeOf Tryd.prog Tryd.f65.ntmps v65 (Tryd.f65.body.getD .skip) = some v65 := by kernel_rfl
theorem ok65 {ds : List PV} {r : PV} {fl : Bool} (h : vwp Tryd.prog v65 (retQ [(2, none), (3, none)] r fl) (initSt ds)) : CallOK Tryd.prog 65 ds r fl :=
  fn_ok Tryd.func65 rfl (by decide) hv65 rfl mixed h

/- proc_rooted -/
def r55_1 : List VOper := [
 vO 2 (.mov (.c (.bool false)))]
def r55_2 : List VOper := [
 vO 6 (.mov (.t 0)),
 vO 7 (.call 65 [(.t 6)]),
 vO 5 (.mov (.t 7)),
 vO 8 (.extract (.t 5) 0),
 vO 9 (.extract (.t 5) 1),
 vO 3 (.mov (.t 8)),
 vO 4 (.mov (.t 9))]
def r55_3 : List VOper := [
 vO 10 (.mov (.t 4)),
 vO 11 (.bin .eql (.t 10) (.c (.int .i64 0))),
 vO 12 (.mov (.t 11)),
 vG 13 12 true (.mov (.t 3)),
 vG 14 12 true (.mov (.t 0)),
 vG 15 12 true (.bin .eql (.t 13) (.t 14)),
 vO 16 (.pick (.t 12) (.t 15) (.c (.bool false))),
 vO 17 (.mov (.t 16)),
 vG 18 17 true (.mov (.t 0)),
 vG 19 17 true (.bin .neq (.t 18) (.c (.str []))),
 vO 20 (.pick (.t 17) (.t 19) (.c (.bool false))),
 vO 21 (.mov (.t 20)),
 vG 22 21 true (.mov (.t 0)),
 vG 23 21 true (.indexStr (.t 22) (.c (.int .i64 0))),
 vG 24 21 true (.bin .eql (.t 23) (.c (.int .u8 47))),
 vO 25 (.pick (.t 21) (.t 24) (.c (.bool false))),
 vO 2 (.mov (.t 25))]
def v55_4 : VCode := (.seq (.region false r55_3) (.keep [2] (.weak .ret)))
def v55_5 : VCode := (.seq (.region false r55_2) (.keep [0, 3, 4] (.weak v55_4)))
def v55 : VCode := (.seq (.region false r55_1) (.keep [0] (.weak v55_5)))
theorem hv55 : codeOf Tryd.prog Tryd.f55.ntmps v55 (Tryd.f55.body.getD .skip) = some v55 := by kernel_rfl
theorem ok55 {ds : List PV} {r : PV} {fl : Bool} (h : vwp Tryd.prog v55 (retQ [(2, none)] r fl) (initSt ds)) : CallOK Tryd.prog 55 ds r fl :=
  fn_ok Tryd.func55 rfl (by decide) hv55 rfl mixed h

/- proc_fields -/
def r29_1 : List VOper := [
 vO 2 (.box (some 3) (.t 0)),
 vO 3 (.box (some 13) (.t 1)),
 vO 4 (.mov (.c (.bool false)))]
def r29_2 : List VOper := [
 vO 11 (.fieldAddr 2 (.t 3)),
 vO 12 (.load none (.t 11)),
 vO 13 (.call 53 [(.t 12)]),
 vO 14 (.not (.t 13)),
 vO 15 (.mov (.t 14)),
 vG 16 15 false (.fieldAddr 3 (.t 3)),
 vG 17 15 false (.load none (.t 16)),
 vG 18 15 false (.call 23 [(.t 17)]),
 vG 19 15 false (.not (.t 18)),
 vO 20 (.pick (.t 15) (.c (.bool true)) (.t 19)),
 vO 21 (.mov (.t 20)),
 vG 22 21 false (.fieldAddr 4 (.t 3)),
 vG 23 21 false (.load none (.t 22)),
 vG 24 21 false (.bin .neq (.t 23) (.c (.str []))),
 vG 25 21 false (.mov (.t 24)),
 vG 26 25 true (.fieldAddr 4 (.t 3)),
 vG 27 25 true (.load none (.t 26)),
 vG 28 25 true (.call 54 [(.t 27)]),
 vG 29 25 true (.not (.t 28)),
 vG 30 21 false (.pick (.t 25) (.t 29) (.c (.bool false))),
 vO 31 (.pick (.t 21) (.c (.bool true)) (.t 30)),
 vO 32 (.mov (.t 31)),
 vG 33 32 false (.fieldAddr 8 (.t 3)),
 vG 34 32 false (.load none (.t 33)),
 vG 35 32 false (.call 55 [(.t 34)]),
 vG 36 32 false (.not (.t 35)),
 vO 37 (.pick (.t 32) (.c (.bool true)) (.t 36)),
 vO 38 (.mov (.t 37)),
 vG 39 38 false (.fieldAddr 10 (.t 3)),
 vG 40 38 false (.load none (.t 39)),
 vG 41 38 false (.bin .neq (.t 40) (.c (.str []))),
 vO 42 (.pick (.t 38) (.c (.bool true)) (.t 41))]
def r29_3 : List VOper := [
 vO 4 (.mov (.c (.bool false)))]
def v29_4 : VCode := (.seq (.region false r29_3) (.keep [4] (.weak .ret)))
def v29_5 : VCode := (.keep [2, 3] (.weak .skip))
def v29_6 : VCode := (.cond (.t 42) v29_4 v29_5)
def v29_7 : VCode := (.seq (.region false r29_2) (.keep [2, 3, 42] (.weak v29_6)))
def r29_8 : List VOper := [
 vO 43 (.fieldAddr 5 (.t 3)),
 vO 44 (.load none (.t 43)),
 vO 45 (.fieldAddr 6 (.t 3)),
 vO 46 (.load none (.t 45)),
 vO 47 (.fieldAddr 7 (.t 3)),
 vO 48 (.load none (.t 47)),
 vO 49 (.buildSlice none (.int .i64 0) 3 [(0, (.t 44)), (1, (.t 46)), (2, (.t 48))]),
 vO 50 (.lenSl (.t 49)),
 vO 51 (.mov (.c (.int .i64 0)))]
def r29_9 : List VOper := [
 vO 52 (.bin .lss (.t 51) (.t 50))]
def v29_10 : VCode := (.keep [2, 3, 49, 50, 51] (.weak .skip))
def v29_11 : VCode := (.keep [2, 3] (.weak (.exit 0)))
def v29_12 : VCode := (.cond (.t 52) v29_10 v29_11)
def r29_13 : List VOper := [
 vO 53 (.indexAddr none (.t 49) (.t 51)),
 vO 54 (.load none (.t 53)),
 vO 6 (.mov (.t 54))]
def r29_14 : List VOper := [
 vO 55 (.mov (.t 6)),
 vO 56 (.bin .lss (.t 55) (.c (.int .i64 1))),
 vO 57 (.mov (.t 56)),
 vG 58 57 false (.mov (.t 6)),
 vG 59 57 false (.fieldAddr 1 (.t 2)),
 vG 60 57 false (.load none (.t 59)),
 vG 61 57 false (.bin .geq (.t 58) (.t 60)),
 vO 62 (.pick (.t 57) (.c (.bool true)) (.t 61))]
def r29_15 : List VOper := [
 vO 4 (.mov (.c (.bool false)))]
def v29_16 : VCode := (.seq (.region false r29_15) (.keep [4] (.weak .ret)))
def v29_17 : VCode := (.keep [2, 3, 49, 50, 51] (.weak .skip))
def v29_18 : VCode := (.cond (.t 62) v29_16 v29_17)
def v29_19 : VCode := (.seq (.region false r29_14) (.keep [2, 3, 49, 50, 51, 62] (.weak v29_18)))
def v29_20 : VCode := (.seq (.region false r29_13) (.keep [2, 3, 6, 49, 50, 51] (.weak v29_19)))
def v29_21 : VCode := (.block 1 v29_20)
def r29_22 : List VOper := [
 vO 63 (.bin .add (.t 51) (.c (.int .i64 1))),
 vO 51 (.mov (.t 63))]
def v29_23 : VCode := (.post [2, 3, 49, 50, 51] (.region false r29_22))
def v29_24 : VCode := (.seq v29_21 v29_23)
def v29_25 : VCode := (.seq v29_12 v29_24)
def v29_26 : VCode := (.seq (.region false r29_9) (.keep [2, 3, 49, 50, 51, 52] (.weak v29_25)))
def v29_27 : VCode := (.loop [2, 3, 49, 50, 51] v29_26)
def v29_28 : VCode := (.keep [2, 3, 49, 50, 51] (.weak v29_27))
def v29_29 : VCode := (.block 0 v29_28)
def v29_30 : VCode := (.seq (.region false r29_8) (.keep [2, 3, 49, 50, 51] (.weak v29_29)))
def r29_31 : List VOper := [
 vO 64 (.fieldAddr 9 (.t 3)),
 vO 65 (.load none (.t 64)),
 vO 66 (.lenSl (.t 65)),
 vO 67 (.bin .gtr (.t 66) (.c (.int .i64 8))),
 vO 68 (.mov (.t 67)),
 vG 69 68 false (.fieldAddr 11 (.t 3)),
 vG 70 68 false (.load none (.t 69)),
 vG 71 68 false (.lenSl (.t 70)),
 vG 72 68 false (.bin .gtr (.t 71) (.c (.int .i64 64))),
 vO 73 (.pick (.t 68) (.c (.bool true)) (.t 72))]
def r29_32 : List VOper := [
 vO 4 (.mov (.c (.bool false)))]
def v29_33 : VCode := (.seq (.region false r29_32) (.keep [4] (.weak .ret)))
def v29_34 : VCode := (.keep [2, 3] (.weak .skip))
def v29_35 : VCode := (.cond (.t 73) v29_33 v29_34)
def v29_36 : VCode := (.seq (.region false r29_31) (.keep [2, 3, 73] (.weak v29_35)))
def r29_37 : List VOper := [
 vO 74 (.fieldAddr 9 (.t 3)),
 vO 75 (.load none (.t 74)),
 vO 76 (.lenSl (.t 75)),
 vO 77 (.mov (.c (.int .i64 0)))]
def r29_38 : List VOper := [
 vO 78 (.bin .lss (.t 77) (.t 76))]
def v29_39 : VCode := (.keep [2, 3, 75, 76, 77] (.weak .skip))
def v29_40 : VCode := (.keep [2, 3] (.weak (.exit 2)))
def v29_41 : VCode := (.cond (.t 78) v29_39 v29_40)
def r29_42 : List VOper := [
 vO 79 (.indexAddr none (.t 75) (.t 77)),
 vO 80 (.load none (.t 79)),
 vO 8 (.mov (.t 80))]
def r29_43 : List VOper := [
 vO 81 (.mov (.t 8)),
 vO 82 (.call 32 [(.t 81)]),
 vO 83 (.not (.t 82))]
def r29_44 : List VOper := [
 vO 4 (.mov (.c (.bool false)))]
def v29_45 : VCode := (.seq (.region false r29_44) (.keep [4] (.weak .ret)))
def v29_46 : VCode := (.keep [2, 3, 75, 76, 77] (.weak .skip))
def v29_47 : VCode := (.cond (.t 83) v29_45 v29_46)
def v29_48 : VCode := (.seq (.region false r29_43) (.keep [2, 3, 75, 76, 77, 83] (.weak v29_47)))
def v29_49 : VCode := (.seq (.region false r29_42) (.keep [2, 3, 8, 75, 76, 77] (.weak v29_48)))
def v29_50 : VCode := (.block 3 v29_49)
def r29_51 : List VOper := [
 vO 84 (.bin .add (.t 77) (.c (.int .i64 1))),
 vO 77 (.mov (.t 84))]
def v29_52 : VCode := (.post [2, 3, 75, 76, 77] (.region false r29_51))
def v29_53 : VCode := (.seq v29_50 v29_52)
def v29_54 : VCode := (.seq v29_41 v29_53)
def v29_55 : VCode := (.seq (.region false r29_38) (.keep [2, 3, 75, 76, 77, 78] (.weak v29_54)))
def v29_56 : VCode := (.loop [2, 3, 75, 76, 77] v29_55)
def v29_57 : VCode := (.keep [2, 3, 75, 76, 77] (.weak v29_56))
def v29_58 : VCode := (.block 2 v29_57)
def v29_59 : VCode := (.seq (.region false r29_37) (.keep [2, 3, 75, 76, 77] (.weak v29_58)))
def r29_60 : List VOper := [
 vO 85 (.fieldAddr 11 (.t 3)),
 vO 86 (.load none (.t 85)),
 vO 87 (.lenSl (.t 86)),
 vO 88 (.mov (.c (.int .i64 0)))]
def r29_61 : List VOper := [
 vO 89 (.bin .lss (.t 88) (.t 87))]
def v29_62 : VCode := (.keep [2, 86, 87, 88] (.weak .skip))
def v29_63 : VCode := (.keep [] (.weak (.exit 4)))
def v29_64 : VCode := (.cond (.t 89) v29_62 v29_63)
def r29_65 : List VOper := [
 vO 90 (.indexAddr (some 2) (.t 86) (.t 88)),
 vO 91 (.load (some 2) (.t 90)),
 vO 10 (.alloc (some 2) (.agg [.int .i64 0, .str []])),
 { dst := none, op := .store (some 2) (.t 10) (.t 91) }]
def r29_66 : List VOper := [
 vO 92 (.fieldAddr 0 (.t 10)),
 vO 93 (.load none (.t 92)),
 vO 94 (.bin .lss (.t 93) (.c (.int .i64 1))),
 vO 95 (.mov (.t 94)),
 vG 96 95 false (.fieldAddr 0 (.t 10)),
 vG 97 95 false (.load none (.t 96)),
 vG 98 95 false (.fieldAddr 0 (.t 2)),
 vG 99 95 false (.load none (.t 98)),
 vG 100 95 false (.bin .geq (.t 97) (.t 99)),
 vO 101 (.pick (.t 95) (.c (.bool true)) (.t 100)),
 vO 102 (.mov (.t 101)),
 vG 103 102 false (.fieldAddr 1 (.t 10)),
 vG 104 102 false (.load none (.t 103)),
 vG 105 102 false (.call 32 [(.t 104)]),
 vG 106 102 false (.not (.t 105)),
 vO 107 (.pick (.t 102) (.c (.bool true)) (.t 106))]
def r29_67 : List VOper := [
 vO 4 (.mov (.c (.bool false)))]
def v29_68 : VCode := (.seq (.region false r29_67) (.keep [4] (.weak .ret)))
def v29_69 : VCode := (.keep [2, 86, 87, 88] (.weak .skip))
def v29_70 : VCode := (.cond (.t 107) v29_68 v29_69)
def v29_71 : VCode := (.seq (.region false r29_66) (.keep [2, 86, 87, 88, 107] (.weak v29_70)))
def v29_72 : VCode := (.seq (.region false r29_65) (.keep [2, 10, 86, 87, 88] (.weak v29_71)))
def v29_73 : VCode := (.block 5 v29_72)
def r29_74 : List VOper := [
 vO 108 (.bin .add (.t 88) (.c (.int .i64 1))),
 vO 88 (.mov (.t 108))]
def v29_75 : VCode := (.post [2, 86, 87, 88] (.region false r29_74))
def v29_76 : VCode := (.seq v29_73 v29_75)
def v29_77 : VCode := (.seq v29_64 v29_76)
def v29_78 : VCode := (.seq (.region false r29_61) (.keep [2, 86, 87, 88, 89] (.weak v29_77)))
def v29_79 : VCode := (.loop [2, 86, 87, 88] v29_78)
def v29_80 : VCode := (.keep [2, 86, 87, 88] (.weak v29_79))
def v29_81 : VCode := (.block 4 v29_80)
def v29_82 : VCode := (.seq (.region false r29_60) (.keep [2, 86, 87, 88] (.weak v29_81)))
def r29_83 : List VOper := [
 vO 4 (.mov (.c (.bool true)))]
def v29_84 : VCode := (.seq (.region false r29_83) (.keep [4] (.weak .ret)))
def v29_85 : VCode := (.seq v29_82 v29_84)
def v29_86 : VCode := (.seq v29_59 v29_85)
def v29_87 : VCode := (.seq v29_36 v29_86)
def v29_88 : VCode := (.seq v29_30 v29_87)
def v29_89 : VCode := (.seq v29_7 v29_88)
def v29 : VCode := (.seq (.region false r29_1) (.keep [2, 3] (.weak v29_89)))
theorem hv29 : codeOf Tryd.prog Tryd.f29.ntmps v29 (Tryd.f29.body.getD .skip) = some v29 := by kernel_rfl
theorem ok29 {ds : List PV} {r : PV} {fl : Bool} (h : vwp Tryd.prog v29 (retQ [(4, none)] r fl) (initSt ds)) : CallOK Tryd.prog 29 ds r fl :=
  fn_ok Tryd.func29 rfl (by decide) hv29 rfl mixed h

/- proc_Right -/
def r15_1 : List VOper := [
 vO 1 (.box (some 3) (.t 0)),
 vO 2 (.mov (.c (.bool false)))]
def r15_2 : List VOper := [
 vO 6 (.fieldAddr 2 (.t 1)),
 vO 7 (.load none (.t 6)),
 vO 8 (.lenSl (.t 7)),
 vO 3 (.mov (.t 8))]
def r15_3 : List VOper := [
 vO 9 (.mov (.t 3)),
 { dst := some 10, op := .bin .lss (.t 9) (.c (.int .i64 1)), bef := [0] },
 { dst := some 11, op := .mov (.t 10), bef := [0, 1] },
 { dst := some 12, op := .mov (.t 3), guard := some (11, false), bef := [0, 1, 2] },
 { dst := some 13, op := .bin .gtr (.t 12) (.c (.int .i64 64)), guard := some (11, false), bef := [0, 1, 2, 3] },
 { dst := some 14, op := .pick (.t 11) (.c (.bool true)) (.t 13), bef := [0, 1, 2, 3, 4] },
 { dst := some 15, op := .mov (.t 14), bef := [0, 1, 2, 3, 4, 5] },
 { dst := some 16, op := .fieldAddr 0 (.t 1), guard := some (15, false), bef := [0, 1, 2, 3, 4, 5, 6] },
 { dst := some 17, op := .load none (.t 16), guard := some (15, false), bef := [0, 1, 2, 3, 4, 5, 6, 7] },
 { dst := some 18, op := .fieldAddr 2 (.t 1), guard := some (15, false), bef := [0, 1, 2, 3, 4, 5, 6] },
 { dst := some 19, op := .load none (.t 18), guard := some (15, false), bef := [0, 1, 2, 3, 4, 5, 6, 9] },
 { dst := some 20, op := .mov (.t 3), guard := some (15, false), bef := [0, 1, 2, 3, 4, 5, 6] },
 { dst := some 21, op := .bin .sub (.t 20) (.c (.int .i64 1)), guard := some (15, false), bef := [0, 1, 2, 3, 4, 5, 6, 11] },
 { dst := some 22, op := .indexAddr (some 13) (.t 19) (.t 21), guard := some (15, false), bef := [0, 1, 2, 3, 4, 5, 6, 9, 10, 11, 12] },
 { dst := some 23, op := .fieldAddr 0 (.t 22), guard := some (15, false), bef := [0, 1, 2, 3, 4, 5, 6, 9, 10, 11, 12, 13] },
 { dst := some 24, op := .load none (.t 23), guard := some (15, false), bef := [0, 1, 2, 3, 4, 5, 6, 9, 10, 11, 12, 13, 14] },
 { dst := some 25, op := .bin .leq (.t 17) (.t 24), guard := some (15, false), bef := [0, 1, 2, 3, 4, 5, 6, 7, 8, 9, 10, 11, 12, 13, 14, 15] },
 { dst := some 26, op := .pick (.t 15) (.c (.bool true)) (.t 25), bef := [0, 1, 2, 3, 4, 5, 6, 7, 8, 9, 10, 11, 12, 13, 14, 15, 16] },
 { dst := some 27, op := .mov (.t 26), bef := [0, 1, 2, 3, 4, 5, 6, 7, 8, 9, 10, 11, 12, 13, 14, 15, 16, 17] },
 { dst := some 28, op := .fieldAddr 0 (.t 1), guard := some (27, false), bef := [0, 1, 2, 3, 4, 5, 6, 7, 8, 9, 10, 11, 12, 13, 14, 15, 16, 17, 18] },
 { dst := some 29, op := .load none (.t 28), guard := some (27, false), bef := [0, 1, 2, 3, 4, 5, 6, 7, 8, 9, 10, 11, 12, 13, 14, 15, 16, 17, 18, 19] },
 { dst := some 30, op := .bin .gtr (.t 29) (.c (.int .i64 1048576)), guard := some (27, false), bef := [0, 1, 2, 3, 4, 5, 6, 7, 8, 9, 10, 11, 12, 13, 14, 15, 16, 17, 18, 19, 20] },
 { dst := some 31, op := .pick (.t 27) (.c (.bool true)) (.t 30), bef := [0, 1, 2, 3, 4, 5, 6, 7, 8, 9, 10, 11, 12, 13, 14, 15, 16, 17, 18, 19, 20, 21] },
 { dst := some 32, op := .mov (.t 31), bef := [0, 1, 2, 3, 4, 5, 6, 7, 8, 9, 10, 11, 12, 13, 14, 15, 16, 17, 18, 19, 20, 21, 22] },
 { dst := some 33, op := .fieldAddr 1 (.t 1), guard := some (32, false), bef := [0, 1, 2, 3, 4, 5, 6, 7, 8, 9, 10, 11, 12, 13, 14, 15, 16, 17, 18, 19, 20, 21, 22, 23] },
 { dst := some 34, op := .load none (.t 33), guard := some (32, false), bef := [0, 1, 2, 3, 4, 5, 6, 7, 8, 9, 10, 11, 12, 13, 14, 15, 16, 17, 18, 19, 20, 21, 22, 23, 24] },
 { dst := some 35, op := .bin .lss (.t 34) (.c (.int .i64 2)), guard := some (32, false), bef := [0, 1, 2, 3, 4, 5, 6, 7, 8, 9, 10, 11, 12, 13, 14, 15, 16, 17, 18, 19, 20, 21, 22, 23, 24, 25] },
 { dst := some 36, op := .pick (.t 32) (.c (.bool true)) (.t 35), bef := [0, 1, 2, 3, 4, 5, 6, 7, 8, 9, 10, 11, 12, 13, 14, 15, 16, 17, 18, 19, 20, 21, 22, 23, 24, 25, 26] },
 { dst := some 37, op := .mov (.t 36), bef := [0, 1, 2, 3, 4, 5, 6, 7, 8, 9, 10, 11, 12, 13, 14, 15, 16, 17, 18, 19, 20, 21, 22, 23, 24, 25, 26, 27] },
 { dst := some 38, op := .fieldAddr 1 (.t 1), guard := some (37, false), bef := [0, 1, 2, 3, 4, 5, 6, 7, 8, 9, 10, 11, 12, 13, 14, 15, 16, 17, 18, 19, 20, 21, 22, 23, 24, 25, 26, 27, 28] },
 { dst := some 39, op := .load none (.t 38), guard := some (37, false), bef := [0, 1, 2, 3, 4, 5, 6, 7, 8, 9, 10, 11, 12, 13, 14, 15, 16, 17, 18, 19, 20, 21, 22, 23, 24, 25, 26, 27, 28, 29] },
 { dst := some 40, op := .bin .gtr (.t 39) (.c (.int .i64 1099511627777)), guard := some (37, false), bef := [0, 1, 2, 3, 4, 5, 6, 7, 8, 9, 10, 11, 12, 13, 14, 15, 16, 17, 18, 19, 20, 21, 22, 23, 24, 25, 26, 27, 28, 29, 30] },
 { dst := some 41, op := .pick (.t 37) (.c (.bool true)) (.t 40), bef := [0, 1, 2, 3, 4, 5, 6, 7, 8, 9, 10, 11, 12, 13, 14, 15, 16, 17, 18, 19, 20, 21, 22, 23, 24, 25, 26, 27, 28, 29, 30, 31] }]
def r15_4 : List VOper := [
 vO 2 (.mov (.c (.bool false)))]
def v15_5 : VCode := (.seq (.region false r15_4) (.keep [2] (.weak .ret)))
def v15_6 : VCode := (.keep [1] (.weak .skip))
def v15_7 : VCode := (.cond (.t 41) v15_5 v15_6)
def v15_8 : VCode := (.seq (.region true r15_3) (.keep [1, 41] (.weak v15_7)))
def r15_9 : List VOper := [
 vO 42 (.fieldAddr 2 (.t 1)),
 vO 43 (.load none (.t 42)),
 vO 44 (.lenSl (.t 43)),
 vO 45 (.mov (.c (.int .i64 0)))]
def r15_10 : List VOper := [
 vO 46 (.bin .lss (.t 45) (.t 44))]
def v15_11 : VCode := (.keep [1, 43, 44, 45] (.weak .skip))
def v15_12 : VCode := (.keep [] (.weak (.exit 0)))
def v15_13 : VCode := (.cond (.t 46) v15_11 v15_12)
def r15_14 : List VOper := [
 vO 47 (.mov (.t 45)),
 vO 48 (.indexAddr (some 13) (.t 43) (.t 45)),
 vO 49 (.load (some 13) (.t 48)),
 vO 5 (.alloc (some 13) (.agg [.int .i64 0, .int .i64 0, .int .i64 0, .str [], .str [], .int .i64 0, .int .i64 0, .int .i64 0, .str [], .usl none [], .str [], .usl (some 2) [], .bool false])),
 vO 4 (.mov (.t 47)),
 { dst := none, op := .store (some 13) (.t 5) (.t 49) }]
def r15_15 : List VOper := [
 vO 50 (.load (some 3) (.t 1)),
 vO 51 (.mov (.t 4)),
 vO 52 (.call 28 [(.t 50), (.t 51)]),
 vO 53 (.not (.t 52)),
 vO 54 (.mov (.t 53)),
 vG 55 54 false (.load (some 3) (.t 1)),
 vG 56 54 false (.load (some 13) (.t 5)),
 vG 57 54 false (.call 29 [(.t 55), (.t 56)]),
 vG 58 54 false (.not (.t 57)),
 vO 59 (.pick (.t 54) (.c (.bool true)) (.t 58))]
def r15_16 : List VOper := [
 vO 2 (.mov (.c (.bool false)))]
def v15_17 : VCode := (.seq (.region false r15_16) (.keep [2] (.weak .ret)))
def v15_18 : VCode := (.keep [1, 43, 44, 45] (.weak .skip))
def v15_19 : VCode := (.cond (.t 59) v15_17 v15_18)
def v15_20 : VCode := (.seq (.region false r15_15) (.keep [1, 43, 44, 45, 59] (.weak v15_19)))
def v15_21 : VCode := (.seq (.region false r15_14) (.keep [1, 4, 5, 43, 44, 45] (.weak v15_20)))
def v15_22 : VCode := (.block 1 v15_21)
def r15_23 : List VOper := [
 vO 60 (.bin .add (.t 45) (.c (.int .i64 1))),
 vO 45 (.mov (.t 60))]
def v15_24 : VCode := (.post [1, 43, 44, 45] (.region false r15_23))
def v15_25 : VCode := (.seq v15_22 v15_24)
def v15_26 : VCode := (.seq v15_13 v15_25)
def v15_27 : VCode := (.seq (.region false r15_10) (.keep [1, 43, 44, 45, 46] (.weak v15_26)))
def v15_28 : VCode := (.loop [1, 43, 44, 45] v15_27)
def v15_29 : VCode := (.keep [1, 43, 44, 45] (.weak v15_28))
def v15_30 : VCode := (.block 0 v15_29)
def v15_31 : VCode := (.seq (.region false r15_9) (.keep [1, 43, 44, 45] (.weak v15_30)))
def r15_32 : List VOper := [
 vO 2 (.mov (.c (.bool true)))]
def v15_33 : VCode := (.seq (.region false r15_32) (.keep [2] (.weak .ret)))
def v15_34 : VCode := (.seq v15_31 v15_33)
def v15_35 : VCode := (.seq v15_8 v15_34)
def v15_36 : VCode := (.seq (.region false r15_2) (.keep [1, 3] (.weak v15_35)))
def v15 : VCode := (.seq (.region false r15_1) (.keep [1] (.weak v15_36)))
theorem hv15 : codeOf Tryd.prog Tryd.f15.ntmps v15 (Tryd.f15.body.getD .skip) = some v15 := by kernel_rfl
theorem ok15 {ds : List PV} {r : PV} {fl : Bool} (h : vwp Tryd.prog v15 (retQ [(2, none)] r fl) (initSt ds)) : CallOK Tryd.prog 15 ds r fl :=
  fn_ok Tryd.func15 rfl (by decide) hv15 rfl mixed h

/- law30_awake -/
def r8_1 : List VOper := [
 vO 0 (.mov (.c (.bool false)))]
def r8_2 : List VOper := [
 vO 17 (.call 9 [(.c (.str [97, 110, 110]))]),
 vO 16 (.mov (.t 17)),
 vO 18 (.extract (.t 16) 0),
 vO 19 (.extract (.t 16) 1),
 vO 1 (.alloc (some 3) (.agg [.int .i64 0, .int .i64 0, .usl (some 13) []])),
 { dst := none, op := .store (some 3) (.t 1) (.t 18) },
 vO 2 (.mov (.t 19))]
def r8_3 : List VOper := [
 vO 20 (.mov (.t 2)),
 vO 21 (.bin .neq (.t 20) (.c (.int .i64 0)))]
def r8_4 : List VOper := [
 vO 0 (.mov (.c (.bool false)))]
def v8_5 : VCode := (.seq (.region false r8_4) (.keep [0] (.weak .ret)))
def v8_6 : VCode := (.keep [1] (.weak .skip))
def v8_7 : VCode := (.cond (.t 21) v8_5 v8_6)
def v8_8 : VCode := (.seq (.region false r8_3) (.keep [1, 21] (.weak v8_7)))
def r8_9 : List VOper := [
 vO 23 (.load (some 3) (.t 1)),
 vO 24 (.call 19 [(.t 23), (.c (.int .i64 1))]),
 vO 22 (.mov (.t 24)),
 vO 25 (.extract (.t 22) 0),
 vO 26 (.extract (.t 22) 1),
 vO 27 (.extract (.t 22) 2),
 vO 28 (.extract (.t 22) 3),
 vO 3 (.alloc (some 3) (.agg [.int .i64 0, .int .i64 0, .usl (some 13) []])),
 vO 4 (.alloc (some 2) (.agg [.int .i64 0, .str []])),
 { dst := none, op := .store (some 3) (.t 3) (.t 25) },
 { dst := none, op := .store (some 2) (.t 4) (.t 26) },
 vO 5 (.mov (.t 27)),
 vO 6 (.mov (.t 28))]
def r8_10 : List VOper := [
 vO 29 (.mov (.t 6)),
 vO 30 (.bin .neq (.t 29) (.c (.int .i64 42)))]
def r8_11 : List VOper := [
 vO 0 (.mov (.c (.bool false)))]
def v8_12 : VCode := (.seq (.region false r8_11) (.keep [0] (.weak .ret)))
def v8_13 : VCode := (.keep [1] (.weak .skip))
def v8_14 : VCode := (.cond (.t 30) v8_12 v8_13)
def v8_15 : VCode := (.seq (.region false r8_10) (.keep [1, 30] (.weak v8_14)))
def v8_16 : VCode := (.seq (.region false r8_9) (.keep [1, 6] (.weak v8_15)))
def r8_17 : List VOper := [
 vO 32 (.load (some 3) (.t 1)),
 vO 33 (.call 20 [(.t 32), (.c (.int .i64 1)), (.c (.int .i64 5))]),
 vO 31 (.mov (.t 33)),
 vO 34 (.extract (.t 31) 0),
 vO 35 (.extract (.t 31) 1),
 vO 36 (.extract (.t 31) 2),
 { dst := none, op := .store (some 3) (.t 1) (.t 34) },
 vO 7 (.mov (.t 35)),
 vO 2 (.mov (.t 36))]
def r8_18 : List VOper := [
 vO 38 (.load (some 3) (.t 1)),
 vO 39 (.call 13 [(.t 38), (.c (.int .i64 2))]),
 vO 37 (.mov (.t 39)),
 vO 40 (.extract (.t 37) 0),
 vO 41 (.extract (.t 37) 1),
 vO 8 (.alloc (some 13) (.agg [.int .i64 0, .int .i64 0, .int .i64 0, .str [], .str [], .int .i64 0, .int .i64 0, .int .i64 0, .str [], .usl none [], .str [], .usl (some 2) [], .bool false])),
 { dst := none, op := .store (some 13) (.t 8) (.t 40) },
 vO 9 (.mov (.t 41))]
def r8_19 : List VOper := [
 vO 42 (.mov (.t 2)),
 vO 43 (.bin .neq (.t 42) (.c (.int .i64 0))),
 vO 44 (.mov (.t 43)),
 vG 45 44 false (.mov (.t 7)),
 vG 46 44 false (.bin .neq (.t 45) (.c (.int .i64 2))),
 vO 47 (.pick (.t 44) (.c (.bool true)) (.t 46)),
 vO 48 (.mov (.t 47)),
 vG 49 48 false (.mov (.t 9)),
 vG 50 48 false (.not (.t 49)),
 vO 51 (.pick (.t 48) (.c (.bool true)) (.t 50)),
 vO 52 (.mov (.t 51)),
 vG 53 52 false (.fieldAddr 5 (.t 8)),
 vG 54 52 false (.load none (.t 53)),
 vG 55 52 false (.bin .neq (.t 54) (.c (.int .i64 2))),
 vO 56 (.pick (.t 52) (.c (.bool true)) (.t 55)),
 vO 57 (.mov (.t 56)),
 vG 58 57 false (.fieldAddr 6 (.t 8)),
 vG 59 57 false (.load none (.t 58)),
 vG 60 57 false (.bin .neq (.t 59) (.c (.int .i64 1))),
 vO 61 (.pick (.t 57) (.c (.bool true)) (.t 60)),
 vO 62 (.mov (.t 61)),
 vG 63 62 false (.fieldAddr 7 (.t 8)),
 vG 64 62 false (.load none (.t 63)),
 vG 65 62 false (.bin .neq (.t 64) (.c (.int .i64 3))),
 vO 66 (.pick (.t 62) (.c (.bool true)) (.t 65)),
 vO 67 (.mov (.t 66)),
 vG 68 67 false (.fieldAddr 1 (.t 8)),
 vG 69 67 false (.load none (.t 68)),
 vG 70 67 false (.bin .neq (.t 69) (.c (.int .i64 1))),
 vO 71 (.pick (.t 67) (.c (.bool true)) (.t 70))]
def r8_20 : List VOper := [
 vO 0 (.mov (.c (.bool false)))]
def v8_21 : VCode := (.seq (.region false r8_20) (.keep [0] (.weak .ret)))
def v8_22 : VCode := (.keep [1] (.weak .skip))
def v8_23 : VCode := (.cond (.t 71) v8_21 v8_22)
def v8_24 : VCode := (.seq (.region false r8_19) (.keep [1, 71] (.weak v8_23)))
def r8_25 : List VOper := [
 vO 73 (.load (some 3) (.t 1)),
 vO 74 (.call 19 [(.t 73), (.c (.int .i64 1))]),
 vO 72 (.mov (.t 74)),
 vO 75 (.extract (.t 72) 0),
 vO 76 (.extract (.t 72) 1),
 vO 77 (.extract (.t 72) 2),
 vO 78 (.extract (.t 72) 3),
 vO 10 (.alloc (some 3) (.agg [.int .i64 0, .int .i64 0, .usl (some 13) []])),
 vO 11 (.alloc (some 2) (.agg [.int .i64 0, .str []])),
 { dst := none, op := .store (some 3) (.t 10) (.t 75) },
 { dst := none, op := .store (some 2) (.t 11) (.t 76) },
 vO 12 (.mov (.t 77)),
 vO 13 (.mov (.t 78))]
def r8_26 : List VOper := [
 vO 79 (.mov (.t 12)),
 vO 80 (.not (.t 79)),
 vO 81 (.mov (.t 80)),
 vG 82 81 false (.mov (.t 13)),
 vG 83 81 false (.bin .neq (.t 82) (.c (.int .i64 0))),
 vO 84 (.pick (.t 81) (.c (.bool true)) (.t 83))]
def r8_27 : List VOper := [
 vO 0 (.mov (.c (.bool false)))]
def v8_28 : VCode := (.seq (.region false r8_27) (.keep [0] (.weak .ret)))
def v8_29 : VCode := (.keep [1] (.weak .skip))
def v8_30 : VCode := (.cond (.t 84) v8_28 v8_29)
def v8_31 : VCode := (.seq (.region false r8_26) (.keep [1, 84] (.weak v8_30)))
def v8_32 : VCode := (.seq (.region false r8_25) (.keep [1, 12, 13] (.weak v8_31)))
def r8_33 : List VOper := [
 vO 86 (.load (some 3) (.t 1)),
 vO 87 (.call 18 [(.t 86), (.c (.int .i64 2)), (.c (.str [100, 111, 110, 101]))]),
 vO 85 (.mov (.t 87)),
 vO 88 (.extract (.t 85) 0),
 vO 89 (.extract (.t 85) 1),
 { dst := none, op := .store (some 3) (.t 1) (.t 88) },
 vO 2 (.mov (.t 89))]
def r8_34 : List VOper := [
 vO 90 (.mov (.t 2)),
 vO 91 (.bin .neq (.t 90) (.c (.int .i64 0)))]
def r8_35 : List VOper := [
 vO 0 (.mov (.c (.bool false)))]
def v8_36 : VCode := (.seq (.region false r8_35) (.keep [0] (.weak .ret)))
def v8_37 : VCode := (.keep [1] (.weak .skip))
def v8_38 : VCode := (.cond (.t 91) v8_36 v8_37)
def v8_39 : VCode := (.seq (.region false r8_34) (.keep [1, 91] (.weak v8_38)))
def r8_40 : List VOper := [
 vO 93 (.load (some 3) (.t 1)),
 vO 94 (.call 19 [(.t 93), (.c (.int .i64 1))]),
 vO 92 (.mov (.t 94)),
 vO 95 (.extract (.t 92) 0),
 vO 96 (.extract (.t 92) 1),
 vO 97 (.extract (.t 92) 2),
 vO 98 (.extract (.t 92) 3),
 vO 14 (.alloc (some 2) (.agg [.int .i64 0, .str []])),
 { dst := none, op := .store (some 3) (.t 1) (.t 95) },
 { dst := none, op := .store (some 2) (.t 14) (.t 96) },
 vO 15 (.mov (.t 97)),
 vO 2 (.mov (.t 98))]
def r8_41 : List VOper := [
 vO 99 (.load (some 2) (.t 14)),
 vO 100 (.build [.int .i64 0, .str []] [(0, 1, (.c (.int .i64 2))), (1, 1, (.c (.str [100, 111, 110, 101])))]),
 vO 101 (.aeq false [1, 2] (.t 99) (.t 100)),
 vO 102 (.mov (.t 101)),
 vG 103 102 true (.mov (.t 15)),
 vG 104 102 true (.not (.t 103)),
 vO 105 (.pick (.t 102) (.t 104) (.c (.bool false))),
 vO 106 (.mov (.t 105)),
 vG 107 106 true (.mov (.t 2)),
 vG 108 106 true (.bin .eql (.t 107) (.c (.int .i64 0))),
 vO 109 (.pick (.t 106) (.t 108) (.c (.bool false))),
 vO 110 (.mov (.t 109)),
 vG 111 110 true (.load (some 3) (.t 1)),
 vG 112 110 true (.call 15 [(.t 111)]),
 vO 113 (.pick (.t 110) (.t 112) (.c (.bool false))),
 vO 114 (.mov (.t 113)),
 vG 115 114 true (.fieldAddr 2 (.t 1)),
 vG 116 114 true (.load none (.t 115)),
 vG 117 114 true (.lenSl (.t 116)),
 vG 118 114 true (.bin .eql (.t 117) (.c (.int .i64 1))),
 vO 119 (.pick (.t 114) (.t 118) (.c (.bool false))),
 vO 0 (.mov (.t 119))]
def v8_42 : VCode := (.seq (.region false r8_41) (.keep [0] (.weak .ret)))
def v8_43 : VCode := (.seq (.region false r8_40) (.keep [1, 2, 14, 15] (.weak v8_42)))
def v8_44 : VCode := (.seq v8_39 v8_43)
def v8_45 : VCode := (.seq (.region false r8_33) (.keep [1, 2] (.weak v8_44)))
def v8_46 : VCode := (.seq v8_32 v8_45)
def v8_47 : VCode := (.seq v8_24 v8_46)
def v8_48 : VCode := (.seq (.region false r8_18) (.keep [1, 2, 7, 8, 9] (.weak v8_47)))
def v8_49 : VCode := (.seq (.region false r8_17) (.keep [1, 2, 7] (.weak v8_48)))
def v8_50 : VCode := (.seq v8_16 v8_49)
def v8_51 : VCode := (.seq v8_8 v8_50)
def v8_52 : VCode := (.seq (.region false r8_2) (.keep [1, 2] (.weak v8_51)))
def v8 : VCode := (.seq (.region false r8_1) (.keep [] (.weak v8_52)))
theorem hv8 : codeOf Tryd.prog Tryd.f8.ntmps v8 (Tryd.f8.body.getD .skip) = some v8 := by kernel_rfl
theorem ok8 {ds : List PV} {r : PV} {fl : Bool} (h : vwp Tryd.prog v8 (retQ [(0, none)] r fl) (initSt ds)) : CallOK Tryd.prog 8 ds r fl :=
  fn_ok Tryd.func8 rfl (by decide) hv8 rfl mixed h

/- ref05_Valid -/
def r24_1 : List VOper := [
 vO 2 (.mov (.c (.bool false)))]
def r24_2 : List VOper := [
 vO 6 (.mov (.t 0)),
 vO 7 (.lenStr (.t 6)),
 vO 8 (.bin .lss (.t 7) (.c (.int .i64 1))),
 vO 9 (.mov (.t 8)),
 vG 10 9 false (.mov (.t 0)),
 vG 11 9 false (.lenStr (.t 10)),
 vG 12 9 false (.bin .gtr (.t 11) (.c (.int .i64 32))),
 vO 13 (.pick (.t 9) (.c (.bool true)) (.t 12))]
def r24_3 : List VOper := [
 vO 2 (.mov (.c (.bool false)))]
def v24_4 : VCode := (.seq (.region false r24_3) (.keep [2] (.weak .ret)))
def v24_5 : VCode := (.keep [0] (.weak .skip))
def v24_6 : VCode := (.cond (.t 13) v24_4 v24_5)
def v24_7 : VCode := (.seq (.region false r24_2) (.keep [0, 13] (.weak v24_6)))
def r24_8 : List VOper := [
 vO 3 (.mov (.c (.int .i64 0)))]
def r24_9 : List VOper := [
 vO 14 (.mov (.t 3)),
 vO 15 (.mov (.t 0)),
 vO 16 (.lenStr (.t 15)),
 vO 17 (.bin .lss (.t 14) (.t 16))]
def v24_10 : VCode := (.keep [0, 3] (.weak .skip))
def v24_11 : VCode := (.keep [] (.weak (.exit 0)))
def v24_12 : VCode := (.cond (.t 17) v24_10 v24_11)
def v24_13 : VCode := (.seq (.region false r24_9) (.keep [0, 3, 17] (.weak v24_12)))
def r24_14 : List VOper := [
 vO 20 (.mov (.t 0)),
 vO 21 (.mov (.t 3)),
 vO 22 (.indexStr (.t 20) (.t 21)),
 vO 4 (.mov (.t 22))]
def r24_15 : List VOper := [
 vO 23 (.mov (.t 4)),
 vO 24 (.bin .geq (.t 23) (.c (.int .u8 97))),
 vO 25 (.mov (.t 24)),
 vG 26 25 true (.mov (.t 4)),
 vG 27 25 true (.bin .leq (.t 26) (.c (.int .u8 122))),
 vO 28 (.pick (.t 25) (.t 27) (.c (.bool false))),
 vO 5 (.mov (.t 28))]
def r24_16 : List VOper := [
 vO 29 (.mov (.t 5)),
 vO 30 (.not (.t 29)),
 vO 31 (.mov (.t 30)),
 vG 32 31 true (.mov (.t 3)),
 vG 33 31 true (.bin .eql (.t 32) (.c (.int .i64 0))),
 vG 34 31 true (.mov (.t 33)),
 vG 35 34 false (.mov (.t 4)),
 vG 36 34 false (.bin .geq (.t 35) (.c (.int .u8 48))),
 vG 37 34 false (.mov (.t 36)),
 vG 38 37 true (.mov (.t 4)),
 vG 39 37 true (.bin .leq (.t 38) (.c (.int .u8 57))),
 vG 40 34 false (.pick (.t 37) (.t 39) (.c (.bool false))),
 vG 41 34 false (.not (.t 40)),
 vG 42 34 false (.mov (.t 41)),
 vG 43 42 true (.mov (.t 4)),
 vG 44 42 true (.bin .neq (.t 43) (.c (.int .u8 45))),
 vG 45 34 false (.pick (.t 42) (.t 44) (.c (.bool false))),
 vG 46 34 false (.mov (.t 45)),
 vG 47 46 true (.mov (.t 4)),
 vG 48 46 true (.bin .neq (.t 47) (.c (.int .u8 95))),
 vG 49 34 false (.pick (.t 46) (.t 48) (.c (.bool false))),
 vG 50 31 true (.pick (.t 34) (.c (.bool true)) (.t 49)),
 vO 51 (.pick (.t 31) (.t 50) (.c (.bool false)))]
def r24_17 : List VOper := [
 vO 2 (.mov (.c (.bool false)))]
def v24_18 : VCode := (.seq (.region false r24_17) (.keep [2] (.weak .ret)))
def v24_19 : VCode := (.keep [0, 3] (.weak .skip))
def v24_20 : VCode := (.cond (.t 51) v24_18 v24_19)
def v24_21 : VCode := (.seq (.region false r24_16) (.keep [0, 3, 51] (.weak v24_20)))
def v24_22 : VCode := (.seq (.region false r24_15) (.keep [0, 3, 4, 5] (.weak v24_21)))
def v24_23 : VCode := (.seq (.region false r24_14) (.keep [0, 3, 4] (.weak v24_22)))
def v24_24 : VCode := (.block 1 v24_23)
def r24_25 : List VOper := [
 vO 18 (.mov (.t 3)),
 vO 19 (.bin .add (.t 18) (.c (.int .i64 1))),
 vO 3 (.mov (.t 19))]
def v24_26 : VCode := (.post [0, 3] (.region false r24_25))
def v24_27 : VCode := (.seq v24_24 v24_26)
def v24_28 : VCode := (.seq v24_13 v24_27)
def v24_29 : VCode := (.loop [0, 3] v24_28)
def v24_30 : VCode := (.keep [0, 3] (.weak v24_29))
def v24_31 : VCode := (.block 0 v24_30)
def v24_32 : VCode := (.seq (.region false r24_8) (.keep [0, 3] (.weak v24_31)))
def r24_33 : List VOper := [
 vO 2 (.mov (.c (.bool true)))]
def v24_34 : VCode := (.seq (.region false r24_33) (.keep [2] (.weak .ret)))
def v24_35 : VCode := (.seq v24_32 v24_34)
def v24_36 : VCode := (.seq v24_7 v24_35)
def v24 : VCode := (.seq (.region false r24_1) (.keep [0] (.weak v24_36)))
theorem hv24 : codeOf Tryd.prog Tryd.f24.ntmps v24 (Tryd.f24.body.getD .skip) = some v24 := by kernel_rfl
theorem ok24 {ds : List PV} {r : PV} {fl : Bool} (h : vwp Tryd.prog v24 (retQ [(2, none)] r fl) (initSt ds)) : CallOK Tryd.prog 24 ds r fl :=
  fn_ok Tryd.func24 rfl (by decide) hv24 rfl mixed h

/- ref30_New -/
def r10_1 : List VOper := [
 vO 2 (.alloc (some 3) (.agg [.int .i64 0, .int .i64 0, .usl (some 13) []])),
 vO 3 (.mov (.c (.int .i64 0)))]
def r10_2 : List VOper := [
 vO 5 (.mov (.t 0)),
 vO 6 (.call 24 [(.t 5)]),
 vO 7 (.not (.t 6))]
def r10_3 : List VOper := [
 vO 8 (.build [.int .i64 0, .int .i64 0, .usl (some 13) []] []),
 { dst := none, op := .store (some 3) (.t 2) (.t 8) },
 vO 3 (.mov (.c (.int .i64 25)))]
def v10_4 : VCode := (.seq (.region false r10_3) (.keep [2, 3] (.weak .ret)))
def v10_5 : VCode := (.keep [0, 2] (.weak .skip))
def v10_6 : VCode := (.cond (.t 7) v10_4 v10_5)
def v10_7 : VCode := (.seq (.region false r10_2) (.keep [0, 2, 7] (.weak v10_6)))
def r10_8 : List VOper := [
 vO 9 (.mov (.t 0)),
 vO 10 (.build [.int .i64 0, .int .i64 0, .int .i64 0, .str [], .str [], .int .i64 0, .int .i64 0, .int .i64 0, .str [], .usl none [], .str [], .usl (some 2) [], .bool false] [(0, 1, (.c (.int .i64 1))), (2, 1, (.c (.int .i64 1))), (3, 1, (.t 9)), (5, 1, (.c (.int .i64 1))), (6, 1, (.c (.int .i64 1))), (7, 1, (.c (.int .i64 1))), (8, 1, (.c (.str [47])))]),
 vO 4 (.alloc (some 13) (.agg [.int .i64 0, .int .i64 0, .int .i64 0, .str [], .str [], .int .i64 0, .int .i64 0, .int .i64 0, .str [], .usl none [], .str [], .usl (some 2) [], .bool false])),
 { dst := none, op := .store (some 13) (.t 4) (.t 10) }]
def r10_9 : List VOper := [
 vO 11 (.load (some 13) (.t 4)),
 vO 12 (.buildSlice (some 13) (.agg [.int .i64 0, .int .i64 0, .int .i64 0, .str [], .str [], .int .i64 0, .int .i64 0, .int .i64 0, .str [], .usl none [], .str [], .usl (some 2) [], .bool false]) 1 [(0, (.t 11))]),
 vO 13 (.build [.int .i64 0, .int .i64 0, .usl (some 13) []] [(0, 1, (.c (.int .i64 2))), (1, 1, (.c (.int .i64 2))), (2, 1, (.t 12))]),
 { dst := none, op := .store (some 3) (.t 2) (.t 13) },
 vO 3 (.mov (.c (.int .i64 0)))]
def v10_10 : VCode := (.seq (.region false r10_9) (.keep [2, 3] (.weak .ret)))
def v10_11 : VCode := (.seq (.region false r10_8) (.keep [2, 4] (.weak v10_10)))
def v10_12 : VCode := (.seq v10_7 v10_11)
def v10 : VCode := (.seq (.region false r10_1) (.keep [0, 2] (.weak v10_12)))
theorem hv10 : codeOf Tryd.prog Tryd.f10.ntmps v10 (Tryd.f10.body.getD .skip) = some v10 := by kernel_rfl
theorem ok10 {ds : List PV} {r : PV} {fl : Bool} (h : vwp Tryd.prog v10 (retQ [(2, some (some 3)), (3, none)] r fl) (initSt ds)) : CallOK Tryd.prog 10 ds r fl :=
  fn_ok Tryd.func10 rfl (by decide) hv10 rfl mixed h

/- ref30_Equal -/
def r17_1 : List VOper := [
 vO 2 (.box (some 13) (.t 0)),
 vO 3 (.box (some 13) (.t 1)),
 vO 4 (.mov (.c (.bool false)))]
def r17_2 : List VOper := [
 vO 7 (.fieldAddr 9 (.t 2)),
 vO 8 (.load none (.t 7)),
 vO 9 (.lenSl (.t 8)),
 vO 10 (.fieldAddr 9 (.t 3)),
 vO 11 (.load none (.t 10)),
 vO 12 (.lenSl (.t 11)),
 vO 13 (.bin .neq (.t 9) (.t 12)),
 vO 14 (.mov (.t 13)),
 vG 15 14 false (.fieldAddr 11 (.t 2)),
 vG 16 14 false (.load none (.t 15)),
 vG 17 14 false (.lenSl (.t 16)),
 vG 18 14 false (.fieldAddr 11 (.t 3)),
 vG 19 14 false (.load none (.t 18)),
 vG 20 14 false (.lenSl (.t 19)),
 vG 21 14 false (.bin .neq (.t 17) (.t 20)),
 vO 22 (.pick (.t 14) (.c (.bool true)) (.t 21))]
def r17_3 : List VOper := [
 vO 4 (.mov (.c (.bool false)))]
def v17_4 : VCode := (.seq (.region false r17_3) (.keep [4] (.weak .ret)))
def v17_5 : VCode := (.keep [2, 3] (.weak .skip))
def v17_6 : VCode := (.cond (.t 22) v17_4 v17_5)
def v17_7 : VCode := (.seq (.region false r17_2) (.keep [2, 3, 22] (.weak v17_6)))
def r17_8 : List VOper := [
 vO 5 (.mov (.c (.int .i64 0)))]
def r17_9 : List VOper := [
 vO 23 (.mov (.t 5)),
 vO 24 (.fieldAddr 9 (.t 2)),
 vO 25 (.load none (.t 24)),
 vO 26 (.lenSl (.t 25)),
 vO 27 (.bin .lss (.t 23) (.t 26))]
def v17_10 : VCode := (.keep [2, 3, 5] (.weak .skip))
def v17_11 : VCode := (.keep [2, 3] (.weak (.exit 0)))
def v17_12 : VCode := (.cond (.t 27) v17_10 v17_11)
def v17_13 : VCode := (.seq (.region false r17_9) (.keep [2, 3, 5, 27] (.weak v17_12)))
def r17_14 : List VOper := [
 vO 30 (.fieldAddr 9 (.t 2)),
 { dst := some 31, op := .load none (.t 30), bef := [0] },
 vO 32 (.mov (.t 5)),
 { dst := some 33, op := .indexAddr none (.t 31) (.t 32), bef := [0, 1, 2] },
 { dst := some 34, op := .load none (.t 33), bef := [0, 1, 2, 3] },
 vO 35 (.fieldAddr 9 (.t 3)),
 { dst := some 36, op := .load none (.t 35), bef := [5] },
 vO 37 (.mov (.t 5)),
 { dst := some 38, op := .indexAddr none (.t 36) (.t 37), bef := [5, 6, 7] },
 { dst := some 39, op := .load none (.t 38), bef := [5, 6, 7, 8] },
 { dst := some 40, op := .bin .neq (.t 34) (.t 39), bef := [0, 1, 2, 3, 4, 5, 6, 7, 8, 9] }]
def r17_15 : List VOper := [
 vO 4 (.mov (.c (.bool false)))]
def v17_16 : VCode := (.seq (.region false r17_15) (.keep [4] (.weak .ret)))
def v17_17 : VCode := (.keep [2, 3, 5] (.weak .skip))
def v17_18 : VCode := (.cond (.t 40) v17_16 v17_17)
def v17_19 : VCode := (.seq (.region true r17_14) (.keep [2, 3, 5, 40] (.weak v17_18)))
def v17_20 : VCode := (.block 1 v17_19)
def r17_21 : List VOper := [
 vO 28 (.mov (.t 5)),
 vO 29 (.bin .add (.t 28) (.c (.int .i64 1))),
 vO 5 (.mov (.t 29))]
def v17_22 : VCode := (.post [2, 3, 5] (.region false r17_21))
def v17_23 : VCode := (.seq v17_20 v17_22)
def v17_24 : VCode := (.seq v17_13 v17_23)
def v17_25 : VCode := (.loop [2, 3, 5] v17_24)
def v17_26 : VCode := (.keep [2, 3, 5] (.weak v17_25))
def v17_27 : VCode := (.block 0 v17_26)
def v17_28 : VCode := (.seq (.region false r17_8) (.keep [2, 3, 5] (.weak v17_27)))
def r17_29 : List VOper := [
 vO 6 (.mov (.c (.int .i64 0)))]
def r17_30 : List VOper := [
 vO 41 (.mov (.t 6)),
 vO 42 (.fieldAddr 11 (.t 2)),
 vO 43 (.load none (.t 42)),
 vO 44 (.lenSl (.t 43)),
 vO 45 (.bin .lss (.t 41) (.t 44))]
def v17_31 : VCode := (.keep [2, 3, 6] (.weak .skip))
def v17_32 : VCode := (.keep [2, 3] (.weak (.exit 2)))
def v17_33 : VCode := (.cond (.t 45) v17_31 v17_32)
def v17_34 : VCode := (.seq (.region false r17_30) (.keep [2, 3, 6, 45] (.weak v17_33)))
def r17_35 : List VOper := [
 vO 48 (.fieldAddr 11 (.t 2)),
 { dst := some 49, op := .load none (.t 48), bef := [0] },
 vO 50 (.mov (.t 6)),
 { dst := some 51, op := .indexAddr (some 2) (.t 49) (.t 50), bef := [0, 1, 2] },
 { dst := some 52, op := .load (some 2) (.t 51), bef := [0, 1, 2, 3] },
 vO 53 (.fieldAddr 11 (.t 3)),
 { dst := some 54, op := .load none (.t 53), bef := [5] },
 vO 55 (.mov (.t 6)),
 { dst := some 56, op := .indexAddr (some 2) (.t 54) (.t 55), bef := [5, 6, 7] },
 { dst := some 57, op := .load (some 2) (.t 56), bef := [5, 6, 7, 8] },
 { dst := some 58, op := .aeq true [1, 2] (.t 52) (.t 57), bef := [0, 1, 2, 3, 4, 5, 6, 7, 8, 9] }]
def r17_36 : List VOper := [
 vO 4 (.mov (.c (.bool false)))]
def v17_37 : VCode := (.seq (.region false r17_36) (.keep [4] (.weak .ret)))
def v17_38 : VCode := (.keep [2, 3, 6] (.weak .skip))
def v17_39 : VCode := (.cond (.t 58) v17_37 v17_38)
def v17_40 : VCode := (.seq (.region true r17_35) (.keep [2, 3, 6, 58] (.weak v17_39)))
def v17_41 : VCode := (.block 3 v17_40)
def r17_42 : List VOper := [
 vO 46 (.mov (.t 6)),
 vO 47 (.bin .add (.t 46) (.c (.int .i64 1))),
 vO 6 (.mov (.t 47))]
def v17_43 : VCode := (.post [2, 3, 6] (.region false r17_42))
def v17_44 : VCode := (.seq v17_41 v17_43)
def v17_45 : VCode := (.seq v17_34 v17_44)
def v17_46 : VCode := (.loop [2, 3, 6] v17_45)
def v17_47 : VCode := (.keep [2, 3, 6] (.weak v17_46))
def v17_48 : VCode := (.block 2 v17_47)
def v17_49 : VCode := (.seq (.region false r17_29) (.keep [2, 3, 6] (.weak v17_48)))
def r17_50 : List VOper := [
 vO 59 (.fieldAddr 0 (.t 2)),
 vO 60 (.load none (.t 59)),
 vO 61 (.fieldAddr 0 (.t 3)),
 vO 62 (.load none (.t 61)),
 vO 63 (.bin .eql (.t 60) (.t 62)),
 vO 64 (.mov (.t 63)),
 vG 65 64 true (.fieldAddr 1 (.t 2)),
 vG 66 64 true (.load none (.t 65)),
 vG 67 64 true (.fieldAddr 1 (.t 3)),
 vG 68 64 true (.load none (.t 67)),
 vG 69 64 true (.bin .eql (.t 66) (.t 68)),
 vO 70 (.pick (.t 64) (.t 69) (.c (.bool false))),
 vO 71 (.mov (.t 70)),
 vG 72 71 true (.fieldAddr 2 (.t 2)),
 vG 73 71 true (.load none (.t 72)),
 vG 74 71 true (.fieldAddr 2 (.t 3)),
 vG 75 71 true (.load none (.t 74)),
 vG 76 71 true (.bin .eql (.t 73) (.t 75)),
 vO 77 (.pick (.t 71) (.t 76) (.c (.bool false))),
 vO 78 (.mov (.t 77)),
 vG 79 78 true (.fieldAddr 3 (.t 2)),
 vG 80 78 true (.load none (.t 79)),
 vG 81 78 true (.fieldAddr 3 (.t 3)),
 vG 82 78 true (.load none (.t 81)),
 vG 83 78 true (.bin .eql (.t 80) (.t 82)),
 vO 84 (.pick (.t 78) (.t 83) (.c (.bool false))),
 vO 85 (.mov (.t 84)),
 vG 86 85 true (.fieldAddr 4 (.t 2)),
 vG 87 85 true (.load none (.t 86)),
 vG 88 85 true (.fieldAddr 4 (.t 3)),
 vG 89 85 true (.load none (.t 88)),
 vG 90 85 true (.bin .eql (.t 87) (.t 89)),
 vO 91 (.pick (.t 85) (.t 90) (.c (.bool false))),
 vO 92 (.mov (.t 91)),
 vG 93 92 true (.fieldAddr 5 (.t 2)),
 vG 94 92 true (.load none (.t 93)),
 vG 95 92 true (.fieldAddr 5 (.t 3)),
 vG 96 92 true (.load none (.t 95)),
 vG 97 92 true (.bin .eql (.t 94) (.t 96)),
 vO 98 (.pick (.t 92) (.t 97) (.c (.bool false))),
 vO 99 (.mov (.t 98)),
 vG 100 99 true (.fieldAddr 6 (.t 2)),
 vG 101 99 true (.load none (.t 100)),
 vG 102 99 true (.fieldAddr 6 (.t 3)),
 vG 103 99 true (.load none (.t 102)),
 vG 104 99 true (.bin .eql (.t 101) (.t 103)),
 vO 105 (.pick (.t 99) (.t 104) (.c (.bool false))),
 vO 106 (.mov (.t 105)),
 vG 107 106 true (.fieldAddr 7 (.t 2)),
 vG 108 106 true (.load none (.t 107)),
 vG 109 106 true (.fieldAddr 7 (.t 3)),
 vG 110 106 true (.load none (.t 109)),
 vG 111 106 true (.bin .eql (.t 108) (.t 110)),
 vO 112 (.pick (.t 106) (.t 111) (.c (.bool false))),
 vO 113 (.mov (.t 112)),
 vG 114 113 true (.fieldAddr 8 (.t 2)),
 vG 115 113 true (.load none (.t 114)),
 vG 116 113 true (.fieldAddr 8 (.t 3)),
 vG 117 113 true (.load none (.t 116)),
 vG 118 113 true (.bin .eql (.t 115) (.t 117)),
 vO 119 (.pick (.t 113) (.t 118) (.c (.bool false))),
 vO 120 (.mov (.t 119)),
 vG 121 120 true (.fieldAddr 10 (.t 2)),
 vG 122 120 true (.load none (.t 121)),
 vG 123 120 true (.fieldAddr 10 (.t 3)),
 vG 124 120 true (.load none (.t 123)),
 vG 125 120 true (.bin .eql (.t 122) (.t 124)),
 vO 126 (.pick (.t 120) (.t 125) (.c (.bool false))),
 vO 127 (.mov (.t 126)),
 vG 128 127 true (.fieldAddr 12 (.t 2)),
 vG 129 127 true (.load none (.t 128)),
 vG 130 127 true (.fieldAddr 12 (.t 3)),
 vG 131 127 true (.load none (.t 130)),
 vG 132 127 true (.beq false (.t 129) (.t 131)),
 vO 133 (.pick (.t 127) (.t 132) (.c (.bool false))),
 vO 4 (.mov (.t 133))]
def v17_51 : VCode := (.seq (.region false r17_50) (.keep [4] (.weak .ret)))
def v17_52 : VCode := (.seq v17_49 v17_51)
def v17_53 : VCode := (.seq v17_28 v17_52)
def v17_54 : VCode := (.seq v17_7 v17_53)
def v17 : VCode := (.seq (.region false r17_1) (.keep [2, 3] (.weak v17_54)))
theorem hv17 : codeOf Tryd.prog Tryd.f17.ntmps v17 (Tryd.f17.body.getD .skip) = some v17 := by kernel_rfl
theorem ok17 {ds : List PV} {r : PV} {fl : Bool} (h : vwp Tryd.prog v17 (retQ [(4, none)] r fl) (initSt ds)) : CallOK Tryd.prog 17 ds r fl :=
  fn_ok Tryd.func17 rfl (by decide) hv17 rfl mixed h

/- ref30_Same -/
def r11_1 : List VOper := [
 vO 2 (.box (some 3) (.t 0)),
 vO 3 (.box (some 3) (.t 1)),
 vO 4 (.mov (.c (.bool false)))]
def r11_2 : List VOper := [
 vO 6 (.fieldAddr 0 (.t 2)),
 vO 7 (.load none (.t 6)),
 vO 8 (.fieldAddr 0 (.t 3)),
 vO 9 (.load none (.t 8)),
 vO 10 (.bin .neq (.t 7) (.t 9)),
 vO 11 (.mov (.t 10)),
 vG 12 11 false (.fieldAddr 1 (.t 2)),
 vG 13 11 false (.load none (.t 12)),
 vG 14 11 false (.fieldAddr 1 (.t 3)),
 vG 15 11 false (.load none (.t 14)),
 vG 16 11 false (.bin .neq (.t 13) (.t 15)),
 vO 17 (.pick (.t 11) (.c (.bool true)) (.t 16)),
 vO 18 (.mov (.t 17)),
 vG 19 18 false (.fieldAddr 2 (.t 2)),
 vG 20 18 false (.load none (.t 19)),
 vG 21 18 false (.lenSl (.t 20)),
 vG 22 18 false (.fieldAddr 2 (.t 3)),
 vG 23 18 false (.load none (.t 22)),
 vG 24 18 false (.lenSl (.t 23)),
 vG 25 18 false (.bin .neq (.t 21) (.t 24)),
 vO 26 (.pick (.t 18) (.c (.bool true)) (.t 25))]
def r11_3 : List VOper := [
 vO 4 (.mov (.c (.bool false)))]
def v11_4 : VCode := (.seq (.region false r11_3) (.keep [4] (.weak .ret)))
def v11_5 : VCode := (.keep [2, 3] (.weak .skip))
def v11_6 : VCode := (.cond (.t 26) v11_4 v11_5)
def v11_7 : VCode := (.seq (.region false r11_2) (.keep [2, 3, 26] (.weak v11_6)))
def r11_8 : List VOper := [
 vO 5 (.mov (.c (.int .i64 0)))]
def r11_9 : List VOper := [
 vO 27 (.mov (.t 5)),
 vO 28 (.fieldAddr 2 (.t 2)),
 vO 29 (.load none (.t 28)),
 vO 30 (.lenSl (.t 29)),
 vO 31 (.bin .lss (.t 27) (.t 30))]
def v11_10 : VCode := (.keep [2, 3, 5] (.weak .skip))
def v11_11 : VCode := (.keep [] (.weak (.exit 0)))
def v11_12 : VCode := (.cond (.t 31) v11_10 v11_11)
def v11_13 : VCode := (.seq (.region false r11_9) (.keep [2, 3, 5, 31] (.weak v11_12)))
def r11_14 : List VOper := [
 vO 34 (.fieldAddr 2 (.t 2)),
 { dst := some 35, op := .load none (.t 34), bef := [0] },
 vO 36 (.mov (.t 5)),
 { dst := some 37, op := .indexAddr (some 13) (.t 35) (.t 36), bef := [0, 1, 2] },
 { dst := some 38, op := .load (some 13) (.t 37), bef := [0, 1, 2, 3] },
 vO 39 (.fieldAddr 2 (.t 3)),
 { dst := some 40, op := .load none (.t 39), bef := [5] },
 vO 41 (.mov (.t 5)),
 { dst := some 42, op := .indexAddr (some 13) (.t 40) (.t 41), bef := [5, 6, 7] },
 { dst := some 43, op := .load (some 13) (.t 42), bef := [5, 6, 7, 8] },
 { dst := some 44, op := .call 17 [(.t 38), (.t 43)], bef := [0, 1, 2, 3, 4, 5, 6, 7, 8, 9] },
 { dst := some 45, op := .not (.t 44), bef := [0, 1, 2, 3, 4, 5, 6, 7, 8, 9, 10] }]
def r11_15 : List VOper := [
 vO 4 (.mov (.c (.bool false)))]
def v11_16 : VCode := (.seq (.region false r11_15) (.keep [4] (.weak .ret)))
def v11_17 : VCode := (.keep [2, 3, 5] (.weak .skip))
def v11_18 : VCode := (.cond (.t 45) v11_16 v11_17)
def v11_19 : VCode := (.seq (.region true r11_14) (.keep [2, 3, 5, 45] (.weak v11_18)))
def v11_20 : VCode := (.block 1 v11_19)
def r11_21 : List VOper := [
 vO 32 (.mov (.t 5)),
 vO 33 (.bin .add (.t 32) (.c (.int .i64 1))),
 vO 5 (.mov (.t 33))]
def v11_22 : VCode := (.post [2, 3, 5] (.region false r11_21))
def v11_23 : VCode := (.seq v11_20 v11_22)
def v11_24 : VCode := (.seq v11_13 v11_23)
def v11_25 : VCode := (.loop [2, 3, 5] v11_24)
def v11_26 : VCode := (.keep [2, 3, 5] (.weak v11_25))
def v11_27 : VCode := (.block 0 v11_26)
def v11_28 : VCode := (.seq (.region false r11_8) (.keep [2, 3, 5] (.weak v11_27)))
def r11_29 : List VOper := [
 vO 4 (.mov (.c (.bool true)))]
def v11_30 : VCode := (.seq (.region false r11_29) (.keep [4] (.weak .ret)))
def v11_31 : VCode := (.seq v11_28 v11_30)
def v11_32 : VCode := (.seq v11_7 v11_31)
def v11 : VCode := (.seq (.region false r11_1) (.keep [2, 3] (.weak v11_32)))
theorem hv11 : codeOf Tryd.prog Tryd.f11.ntmps v11 (Tryd.f11.body.getD .skip) = some v11 := by kernel_rfl
theorem ok11 {ds : List PV} {r : PV} {fl : Bool} (h : vwp Tryd.prog v11 (retQ [(4, none)] r fl) (initSt ds)) : CallOK Tryd.prog 11 ds r fl :=
  fn_ok Tryd.func11 rfl (by decide) hv11 rfl mixed h

/- law30_ProcNews -/
def r3_1 : List VOper := [
 vO 2 (.mov (.c (.bool false)))]
def r3_2 : List VOper := [
 vO 7 (.mov (.t 0)),
 vO 8 (.lenStr (.t 7)),
 vO 9 (.bin .gtr (.t 8) (.c (.int .i64 1000)))]
def r3_3 : List VOper := [
 vO 10 (.call 8 []),
 vO 2 (.mov (.t 10))]
def v3_4 : VCode := (.seq (.region false r3_3) (.keep [2] (.weak .ret)))
def v3_5 : VCode := (.keep [0] (.weak .skip))
def v3_6 : VCode := (.cond (.t 9) v3_4 v3_5)
def v3_7 : VCode := (.seq (.region false r3_2) (.keep [0, 9] (.weak v3_6)))
def r3_8 : List VOper := [
 vO 12 (.mov (.t 0)),
 vO 13 (.call 9 [(.t 12)]),
 vO 11 (.mov (.t 13)),
 vO 14 (.extract (.t 11) 0),
 vO 15 (.extract (.t 11) 1),
 vO 3 (.alloc (some 3) (.agg [.int .i64 0, .int .i64 0, .usl (some 13) []])),
 { dst := none, op := .store (some 3) (.t 3) (.t 14) },
 vO 4 (.mov (.t 15))]
def r3_9 : List VOper := [
 vO 17 (.mov (.t 0)),
 vO 18 (.call 10 [(.t 17)]),
 vO 16 (.mov (.t 18)),
 vO 19 (.extract (.t 16) 0),
 vO 20 (.extract (.t 16) 1),
 vO 5 (.alloc (some 3) (.agg [.int .i64 0, .int .i64 0, .usl (some 13) []])),
 { dst := none, op := .store (some 3) (.t 5) (.t 19) },
 vO 6 (.mov (.t 20))]
def r3_10 : List VOper := [
 vO 21 (.load (some 3) (.t 3)),
 vO 22 (.load (some 3) (.t 5)),
 vO 23 (.call 11 [(.t 21), (.t 22)]),
 vO 24 (.mov (.t 23)),
 vG 25 24 true (.mov (.t 4)),
 vG 26 24 true (.mov (.t 6)),
 vG 27 24 true (.bin .eql (.t 25) (.t 26)),
 vO 28 (.pick (.t 24) (.t 27) (.c (.bool false))),
 vO 29 (.mov (.t 28)),
 vG 30 29 true (.call 8 []),
 vO 31 (.pick (.t 29) (.t 30) (.c (.bool false))),
 vO 2 (.mov (.t 31))]
def v3_11 : VCode := (.seq (.region false r3_10) (.keep [2] (.weak .ret)))
def v3_12 : VCode := (.seq (.region false r3_9) (.keep [3, 4, 5, 6] (.weak v3_11)))
def v3_13 : VCode := (.seq (.region false r3_8) (.keep [0, 3, 4] (.weak v3_12)))
def v3_14 : VCode := (.seq v3_7 v3_13)
def v3 : VCode := (.seq (.region false r3_1) (.keep [0] (.weak v3_14)))
theorem hv3 : codeOf Tryd.prog Tryd.f3.ntmps v3 (Tryd.f3.body.getD .skip) = some v3 := by kernel_rfl
theorem ok3 {ds : List PV} {r : PV} {fl : Bool} (h : vwp Tryd.prog v3 (retQ [(2, none)] r fl) (initSt ds)) : CallOK Tryd.prog 3 ds r fl :=
  fn_ok Tryd.func3 rfl (by decide) hv3 rfl mixed h

end Go.Proofs.YtfaobpifaobobaaDoor
