/- The machine's code of the functions of this translation, printed by a program of the claim's author. -/
import Derived.Test.YtpmkdmgmnljlmaaVmX
import Derived.Test.YtpmkdmgmnljlmaaChecked
import Derived.KernelRfl
namespace Go.Proofs.Ytpmkdmgmnljlmaa
open Go.Vm
set_option autoImplicit false
set_option linter.unusedVariables false
set_option linter.unusedSimpArgs false
set_option maxRecDepth 100000

theorem mixed : Try.prog.follows .mixedOrders = true := by kernel_rfl

/- law12_two -/
def r23_1 : List VOper := [
  { dst := some 0, op := .alloc (some 2) (.agg [.int .i64 0, .usl (some 11) []]) }]
def r23_2 : List VOper := [
  { dst := some 1, op := .build [.int .i64 0, .int .i64 0, .int .i64 0, .str [], .int .i64 0, .str [], .str [], .str [], .int .i64 0, .int .i64 0, .str []] [(0, 1, (.c (.int .i64 1))), (1, 1, (.c (.int .i64 1))), (3, 1, (.c (.str [47]))), (4, 1, (.c (.int .i64 2147484141))), (5, 1, (.c (.str [97, 110, 110])))] },
  { dst := some 2, op := .build [.int .i64 0, .int .i64 0, .int .i64 0, .str [], .int .i64 0, .str [], .str [], .str [], .int .i64 0, .int .i64 0, .str []] [(0, 1, (.c (.int .i64 2))), (1, 1, (.c (.int .i64 1))), (3, 1, (.c (.str [102]))), (4, 1, (.c (.int .i64 420))), (5, 1, (.c (.str [97, 110, 110]))), (10, 1, (.c (.str [97, 98, 99])))] },
  { dst := some 3, op := .buildSlice (some 11) (.agg [.int .i64 0, .int .i64 0, .int .i64 0, .str [], .int .i64 0, .str [], .str [], .str [], .int .i64 0, .int .i64 0, .str []]) 2 [(0, (.t 1)), (1, (.t 2))] },
  { dst := some 4, op := .build [.int .i64 0, .usl (some 11) []] [(0, 1, (.c (.int .i64 3))), (1, 1, (.t 3))] },
  { dst := none, op := .store (some 2) (.t 0) (.t 4) }]
def v23_3 : VCode := (.seq (.region false r23_2) (.keep [0] (.weak .ret)))
def v23 : VCode := (.seq (.region false r23_1) (.keep [0] (.weak v23_3)))
theorem hv23 : codeOf Try.prog Try.f23.ntmps v23 (Try.f23.body.getD .skip) = some v23 := by kernel_rfl
theorem ok23 {ds : List PV} {r : PV} {fl : Bool} (h : vwp Try.prog v23 (retQ [(0, some (some 2))] r fl) (initSt ds)) : CallOK Try.prog 23 ds r fl :=
  fn_ok Try.func23 rfl (by decide) hv23 rfl mixed h

/- quota_Used -/
def r12_1 : List VOper := [
  { dst := some 2, op := .box (some 2) (.t 0) },
  { dst := some 4, op := .mov (.c (.int .i64 0)) },
  { dst := some 5, op := .mov (.c (.int .i64 0)) }]
def r12_2 : List VOper := [
  { dst := some 6, op := .mov (.c (.int .i64 0)) },
  { dst := some 7, op := .mov (.c (.int .i64 0)) }]
def r12_3 : List VOper := [
  { dst := some 10, op := .fieldAddr 1 (.t 2) },
  { dst := some 11, op := .load none (.t 10) },
  { dst := some 12, op := .lenSl (.t 11) },
  { dst := some 13, op := .mov (.c (.int .i64 0)) }]
def r12_4 : List VOper := [
  { dst := some 14, op := .bin .lss (.t 13) (.t 12) }]
def v12_5 : VCode := (.keep [1, 6, 7, 11, 12, 13] (.weak .skip))
def v12_6 : VCode := (.keep [6, 7] (.weak (.exit 0)))
def v12_7 : VCode := (.cond (.t 14) v12_5 v12_6)
def r12_8 : List VOper := [
  { dst := some 15, op := .indexAddr (some 11) (.t 11) (.t 13) },
  { dst := some 16, op := .load (some 11) (.t 15) },
  { dst := some 9, op := .alloc (some 11) (.agg [.int .i64 0, .int .i64 0, .int .i64 0, .str [], .int .i64 0, .str [], .str [], .str [], .int .i64 0, .int .i64 0, .str []]) },
  { dst := none, op := .store (some 11) (.t 9) (.t 16) }]
def r12_9 : List VOper := [
  { dst := some 17, op := .fieldAddr 5 (.t 9) },
  { dst := some 18, op := .load none (.t 17) },
  { dst := some 19, op := .mov (.t 1) },
  { dst := some 20, op := .bin .eql (.t 18) (.t 19) }]
def r12_10 : List VOper := [
  { dst := some 21, op := .mov (.t 6) },
  { dst := some 22, op := .bin .add (.t 21) (.c (.int .i64 1)) },
  { dst := some 6, op := .mov (.t 22) }]
def r12_11 : List VOper := [
  { dst := some 23, op := .mov (.t 7) },
  { dst := some 24, op := .fieldAddr 10 (.t 9) },
  { dst := some 25, op := .load none (.t 24) },
  { dst := some 26, op := .lenStr (.t 25) },
  { dst := some 27, op := .bin .add (.t 23) (.t 26) },
  { dst := some 7, op := .mov (.t 27) }]
def v12_12 : VCode := (.post [1, 6, 7, 11, 12, 13] (.region false r12_11))
def v12_13 : VCode := (.seq (.region false r12_10) (.keep [1, 6, 7, 9, 11, 12, 13] (.weak v12_12)))
def v12_14 : VCode := (.keep [1, 6, 7, 11, 12, 13] (.weak .skip))
def v12_15 : VCode := (.cond (.t 20) v12_13 v12_14)
def v12_16 : VCode := (.seq (.region false r12_9) (.keep [1, 6, 7, 9, 11, 12, 13, 20] (.weak v12_15)))
def v12_17 : VCode := (.seq (.region false r12_8) (.keep [1, 6, 7, 9, 11, 12, 13] (.weak v12_16)))
def v12_18 : VCode := (.block 1 v12_17)
def r12_19 : List VOper := [
  { dst := some 28, op := .bin .add (.t 13) (.c (.int .i64 1)) },
  { dst := some 13, op := .mov (.t 28) }]
def v12_20 : VCode := (.post [1, 6, 7, 11, 12, 13] (.region false r12_19))
def v12_21 : VCode := (.seq v12_18 v12_20)
def v12_22 : VCode := (.seq v12_7 v12_21)
def v12_23 : VCode := (.seq (.region false r12_4) (.keep [1, 6, 7, 11, 12, 13, 14] (.weak v12_22)))
def v12_24 : VCode := (.loop [1, 6, 7, 11, 12, 13] v12_23)
def v12_25 : VCode := (.keep [1, 6, 7, 11, 12, 13] (.weak v12_24))
def v12_26 : VCode := (.block 0 v12_25)
def v12_27 : VCode := (.seq (.region false r12_3) (.keep [1, 6, 7, 11, 12, 13] (.weak v12_26)))
def r12_28 : List VOper := [
  { dst := some 29, op := .mov (.t 6) },
  { dst := some 30, op := .mov (.t 7) },
  { dst := some 4, op := .mov (.t 29) },
  { dst := some 5, op := .mov (.t 30) }]
def v12_29 : VCode := (.seq (.region false r12_28) (.keep [4, 5] (.weak .ret)))
def v12_30 : VCode := (.seq v12_27 v12_29)
def v12_31 : VCode := (.seq (.region false r12_2) (.keep [1, 2, 6, 7] (.weak v12_30)))
def v12 : VCode := (.seq (.region false r12_1) (.keep [1, 2] (.weak v12_31)))
theorem hv12 : codeOf Try.prog Try.f12.ntmps v12 (Try.f12.body.getD .skip) = some v12 := by kernel_rfl
theorem ok12 {ds : List PV} {r : PV} {fl : Bool} (h : vwp Try.prog v12 (retQ [(4, none), (5, none)] r fl) (initSt ds)) : CallOK Try.prog 12 ds r fl :=
  fn_ok Try.func12 rfl (by decide) hv12 rfl mixed h

/- quota_Find -/
def r14_1 : List VOper := [
  { dst := some 4, op := .alloc (some 3) (.agg [.str [], .int .i64 0, .int .i64 0]) },
  { dst := some 5, op := .mov (.c (.bool false)) }]
def r14_2 : List VOper := [
  { dst := some 8, op := .mov (.t 0) },
  { dst := some 9, op := .lenSl (.t 8) },
  { dst := some 10, op := .mov (.c (.int .i64 0)) }]
def r14_3 : List VOper := [
  { dst := some 11, op := .bin .lss (.t 10) (.t 9) }]
def v14_4 : VCode := (.keep [1, 4, 8, 9, 10] (.weak .skip))
def v14_5 : VCode := (.keep [4] (.weak (.exit 0)))
def v14_6 : VCode := (.cond (.t 11) v14_4 v14_5)
def r14_7 : List VOper := [
  { dst := some 12, op := .indexAddr (some 3) (.t 8) (.t 10) },
  { dst := some 13, op := .load (some 3) (.t 12) },
  { dst := some 7, op := .alloc (some 3) (.agg [.str [], .int .i64 0, .int .i64 0]) },
  { dst := none, op := .store (some 3) (.t 7) (.t 13) }]
def r14_8 : List VOper := [
  { dst := some 14, op := .fieldAddr 0 (.t 7) },
  { dst := some 15, op := .load none (.t 14) },
  { dst := some 16, op := .mov (.t 1) },
  { dst := some 17, op := .bin .eql (.t 15) (.t 16) }]
def r14_9 : List VOper := [
  { dst := some 18, op := .load (some 3) (.t 7) },
  { dst := none, op := .store (some 3) (.t 4) (.t 18) },
  { dst := some 5, op := .mov (.c (.bool true)) }]
def v14_10 : VCode := (.seq (.region false r14_9) (.keep [4, 5] (.weak .ret)))
def v14_11 : VCode := (.keep [1, 4, 8, 9, 10] (.weak .skip))
def v14_12 : VCode := (.cond (.t 17) v14_10 v14_11)
def v14_13 : VCode := (.seq (.region false r14_8) (.keep [1, 4, 7, 8, 9, 10, 17] (.weak v14_12)))
def v14_14 : VCode := (.seq (.region false r14_7) (.keep [1, 4, 7, 8, 9, 10] (.weak v14_13)))
def v14_15 : VCode := (.block 1 v14_14)
def r14_16 : List VOper := [
  { dst := some 19, op := .bin .add (.t 10) (.c (.int .i64 1)) },
  { dst := some 10, op := .mov (.t 19) }]
def v14_17 : VCode := (.post [1, 4, 8, 9, 10] (.region false r14_16))
def v14_18 : VCode := (.seq v14_15 v14_17)
def v14_19 : VCode := (.seq v14_6 v14_18)
def v14_20 : VCode := (.seq (.region false r14_3) (.keep [1, 4, 8, 9, 10, 11] (.weak v14_19)))
def v14_21 : VCode := (.loop [1, 4, 8, 9, 10] v14_20)
def v14_22 : VCode := (.keep [1, 4, 8, 9, 10] (.weak v14_21))
def v14_23 : VCode := (.block 0 v14_22)
def v14_24 : VCode := (.seq (.region false r14_2) (.keep [1, 4, 8, 9, 10] (.weak v14_23)))
def r14_25 : List VOper := [
  { dst := some 20, op := .build [.str [], .int .i64 0, .int .i64 0] [] },
  { dst := none, op := .store (some 3) (.t 4) (.t 20) },
  { dst := some 5, op := .mov (.c (.bool false)) }]
def v14_26 : VCode := (.seq (.region false r14_25) (.keep [4, 5] (.weak .ret)))
def v14_27 : VCode := (.seq v14_24 v14_26)
def v14 : VCode := (.seq (.region false r14_1) (.keep [0, 1, 4] (.weak v14_27)))
theorem hv14 : codeOf Try.prog Try.f14.ntmps v14 (Try.f14.body.getD .skip) = some v14 := by kernel_rfl
theorem ok14 {ds : List PV} {r : PV} {fl : Bool} (h : vwp Try.prog v14 (retQ [(4, some (some 3)), (5, none)] r fl) (initSt ds)) : CallOK Try.prog 14 ds r fl :=
  fn_ok Try.func14 rfl (by decide) hv14 rfl mixed h

/- user_Valid -/
def r21_1 : List VOper := [
  { dst := some 2, op := .mov (.c (.bool false)) }]
def r21_2 : List VOper := [
  { dst := some 7, op := .mov (.t 0) },
  { dst := some 8, op := .bin .eql (.t 7) (.c (.str [])) },
  { dst := some 9, op := .mov (.t 8) },
  { dst := some 10, op := .mov (.t 0), guard := some (9, false) },
  { dst := some 11, op := .lenStr (.t 10), guard := some (9, false) },
  { dst := some 12, op := .bin .gtr (.t 11) (.c (.int .i64 32)), guard := some (9, false) },
  { dst := some 13, op := .pick (.t 9) (.c (.bool true)) (.t 12) }]
def r21_3 : List VOper := [
  { dst := some 2, op := .mov (.c (.bool false)) }]
def v21_4 : VCode := (.seq (.region false r21_3) (.keep [2] (.weak .ret)))
def v21_5 : VCode := (.keep [0] (.weak .skip))
def v21_6 : VCode := (.cond (.t 13) v21_4 v21_5)
def v21_7 : VCode := (.seq (.region false r21_2) (.keep [0, 13] (.weak v21_6)))
def r21_8 : List VOper := [
  { dst := some 14, op := .mov (.t 0) },
  { dst := some 15, op := .lenStr (.t 14) },
  { dst := some 16, op := .mov (.c (.int .i64 0)) }]
def r21_9 : List VOper := [
  { dst := some 17, op := .bin .lss (.t 16) (.t 15) }]
def v21_10 : VCode := (.keep [0, 15, 16] (.weak .skip))
def v21_11 : VCode := (.keep [] (.weak (.exit 0)))
def v21_12 : VCode := (.cond (.t 17) v21_10 v21_11)
def r21_13 : List VOper := [
  { dst := some 18, op := .mov (.t 16) },
  { dst := some 3, op := .mov (.t 18) }]
def r21_14 : List VOper := [
  { dst := some 19, op := .mov (.t 0) },
  { dst := some 20, op := .mov (.t 3) },
  { dst := some 21, op := .indexStr (.t 19) (.t 20) },
  { dst := some 4, op := .mov (.t 21) }]
def r21_15 : List VOper := [
  { dst := some 22, op := .mov (.t 4) },
  { dst := some 23, op := .bin .geq (.t 22) (.c (.int .u8 97)) },
  { dst := some 24, op := .mov (.t 23) },
  { dst := some 25, op := .mov (.t 4), guard := some (24, true) },
  { dst := some 26, op := .bin .leq (.t 25) (.c (.int .u8 122)), guard := some (24, true) },
  { dst := some 27, op := .pick (.t 24) (.t 26) (.c (.bool false)) },
  { dst := some 5, op := .mov (.t 27) }]
def r21_16 : List VOper := [
  { dst := some 28, op := .mov (.t 4) },
  { dst := some 29, op := .bin .geq (.t 28) (.c (.int .u8 48)) },
  { dst := some 30, op := .mov (.t 29) },
  { dst := some 31, op := .mov (.t 4), guard := some (30, true) },
  { dst := some 32, op := .bin .leq (.t 31) (.c (.int .u8 57)), guard := some (30, true) },
  { dst := some 33, op := .pick (.t 30) (.t 32) (.c (.bool false)) },
  { dst := some 34, op := .mov (.t 33) },
  { dst := some 35, op := .mov (.t 4), guard := some (34, false) },
  { dst := some 36, op := .bin .eql (.t 35) (.c (.int .u8 45)), guard := some (34, false) },
  { dst := some 37, op := .pick (.t 34) (.c (.bool true)) (.t 36) },
  { dst := some 38, op := .mov (.t 37) },
  { dst := some 39, op := .mov (.t 4), guard := some (38, false) },
  { dst := some 40, op := .bin .eql (.t 39) (.c (.int .u8 95)), guard := some (38, false) },
  { dst := some 41, op := .pick (.t 38) (.c (.bool true)) (.t 40) },
  { dst := some 6, op := .mov (.t 41) }]
def r21_17 : List VOper := [
  { dst := some 42, op := .mov (.t 5) },
  { dst := some 43, op := .not (.t 42) },
  { dst := some 44, op := .mov (.t 43) },
  { dst := some 45, op := .mov (.t 3), guard := some (44, true) },
  { dst := some 46, op := .bin .eql (.t 45) (.c (.int .i64 0)), guard := some (44, true) },
  { dst := some 47, op := .mov (.t 46), guard := some (44, true) },
  { dst := some 48, op := .mov (.t 6), guard := some (47, false) },
  { dst := some 49, op := .not (.t 48), guard := some (47, false) },
  { dst := some 50, op := .pick (.t 47) (.c (.bool true)) (.t 49), guard := some (44, true) },
  { dst := some 51, op := .pick (.t 44) (.t 50) (.c (.bool false)) }]
def r21_18 : List VOper := [
  { dst := some 2, op := .mov (.c (.bool false)) }]
def v21_19 : VCode := (.seq (.region false r21_18) (.keep [2] (.weak .ret)))
def v21_20 : VCode := (.keep [0, 15, 16] (.weak .skip))
def v21_21 : VCode := (.cond (.t 51) v21_19 v21_20)
def v21_22 : VCode := (.seq (.region false r21_17) (.keep [0, 15, 16, 51] (.weak v21_21)))
def v21_23 : VCode := (.seq (.region false r21_16) (.keep [0, 3, 5, 6, 15, 16] (.weak v21_22)))
def v21_24 : VCode := (.seq (.region false r21_15) (.keep [0, 3, 4, 5, 15, 16] (.weak v21_23)))
def v21_25 : VCode := (.seq (.region false r21_14) (.keep [0, 3, 4, 15, 16] (.weak v21_24)))
def v21_26 : VCode := (.seq (.region false r21_13) (.keep [0, 3, 15, 16] (.weak v21_25)))
def v21_27 : VCode := (.block 1 v21_26)
def r21_28 : List VOper := [
  { dst := some 52, op := .bin .add (.t 16) (.c (.int .i64 1)) },
  { dst := some 16, op := .mov (.t 52) }]
def v21_29 : VCode := (.post [0, 15, 16] (.region false r21_28))
def v21_30 : VCode := (.seq v21_27 v21_29)
def v21_31 : VCode := (.seq v21_12 v21_30)
def v21_32 : VCode := (.seq (.region false r21_9) (.keep [0, 15, 16, 17] (.weak v21_31)))
def v21_33 : VCode := (.loop [0, 15, 16] v21_32)
def v21_34 : VCode := (.keep [0, 15, 16] (.weak v21_33))
def v21_35 : VCode := (.block 0 v21_34)
def v21_36 : VCode := (.seq (.region false r21_8) (.keep [0, 15, 16] (.weak v21_35)))
def r21_37 : List VOper := [
  { dst := some 2, op := .mov (.c (.bool true)) }]
def v21_38 : VCode := (.seq (.region false r21_37) (.keep [2] (.weak .ret)))
def v21_39 : VCode := (.seq v21_36 v21_38)
def v21_40 : VCode := (.seq v21_7 v21_39)
def v21 : VCode := (.seq (.region false r21_1) (.keep [0] (.weak v21_40)))
theorem hv21 : codeOf Try.prog Try.f21.ntmps v21 (Try.f21.body.getD .skip) = some v21 := by kernel_rfl
theorem ok21 {ds : List PV} {r : PV} {fl : Bool} (h : vwp Try.prog v21 (retQ [(2, none)] r fl) (initSt ds)) : CallOK Try.prog 21 ds r fl :=
  fn_ok Try.func21 rfl (by decide) hv21 rfl mixed h

/- quota_Check -/
def r8_1 : List VOper := [
  { dst := some 2, op := .mov (.c (.int .i64 0)) }]
def r8_2 : List VOper := [
  { dst := some 5, op := .mov (.t 0) },
  { dst := some 6, op := .lenSl (.t 5) },
  { dst := some 7, op := .bin .gtr (.t 6) (.c (.int .i64 64)) }]
def r8_3 : List VOper := [
  { dst := some 2, op := .mov (.c (.int .i64 22)) }]
def v8_4 : VCode := (.seq (.region false r8_3) (.keep [2] (.weak .ret)))
def v8_5 : VCode := (.keep [0] (.weak .skip))
def v8_6 : VCode := (.cond (.t 7) v8_4 v8_5)
def v8_7 : VCode := (.seq (.region false r8_2) (.keep [0, 7] (.weak v8_6)))
def r8_8 : List VOper := [
  { dst := some 8, op := .mov (.t 0) },
  { dst := some 9, op := .lenSl (.t 8) },
  { dst := some 10, op := .mov (.c (.int .i64 0)) }]
def r8_9 : List VOper := [
  { dst := some 11, op := .bin .lss (.t 10) (.t 9) }]
def v8_10 : VCode := (.keep [0, 8, 9, 10] (.weak .skip))
def v8_11 : VCode := (.keep [] (.weak (.exit 0)))
def v8_12 : VCode := (.cond (.t 11) v8_10 v8_11)
def r8_13 : List VOper := [
  { dst := some 12, op := .mov (.t 10) },
  { dst := some 13, op := .indexAddr (some 3) (.t 8) (.t 10) },
  { dst := some 14, op := .load (some 3) (.t 13) },
  { dst := some 4, op := .alloc (some 3) (.agg [.str [], .int .i64 0, .int .i64 0]) },
  { dst := some 3, op := .mov (.t 12) },
  { dst := none, op := .store (some 3) (.t 4) (.t 14) }]
def r8_14 : List VOper := [
  { dst := some 16, op := .fieldAddr 0 (.t 4) },
  { dst := some 17, op := .load none (.t 16) },
  { dst := some 18, op := .call 21 [(.t 17)] },
  { dst := some 19, op := .not (.t 18) },
  { dst := some 15, op := .mov (.t 19) }]
def r8_15 : List VOper := [
  { dst := some 2, op := .mov (.c (.int .i64 25)) }]
def v8_16 : VCode := (.seq (.region false r8_15) (.keep [2] (.weak .ret)))
def r8_17 : List VOper := [
  { dst := some 21, op := .mov (.t 3) },
  { dst := some 22, op := .bin .gtr (.t 21) (.c (.int .i64 0)), bef := [0] },
  { dst := some 23, op := .mov (.t 22), bef := [0, 1] },
  { dst := some 24, op := .fieldAddr 0 (.t 4), guard := some (23, true), bef := [0, 1, 2] },
  { dst := some 25, op := .load none (.t 24), guard := some (23, true), bef := [0, 1, 2, 3] },
  { dst := some 26, op := .mov (.t 0), guard := some (23, true), bef := [0, 1, 2] },
  { dst := some 27, op := .mov (.t 3), guard := some (23, true), bef := [0, 1, 2] },
  { dst := some 28, op := .bin .sub (.t 27) (.c (.int .i64 1)), guard := some (23, true), bef := [0, 1, 2, 6] },
  { dst := some 29, op := .indexAddr (some 3) (.t 26) (.t 28), guard := some (23, true), bef := [0, 1, 2, 5, 6, 7] },
  { dst := some 30, op := .fieldAddr 0 (.t 29), guard := some (23, true), bef := [0, 1, 2, 5, 6, 7, 8] },
  { dst := some 31, op := .load none (.t 30), guard := some (23, true), bef := [0, 1, 2, 5, 6, 7, 8, 9] },
  { dst := some 32, op := .bin .leq (.t 25) (.t 31), guard := some (23, true), bef := [0, 1, 2, 3, 4, 5, 6, 7, 8, 9, 10] },
  { dst := some 33, op := .pick (.t 23) (.t 32) (.c (.bool false)), bef := [0, 1, 2, 3, 4, 5, 6, 7, 8, 9, 10, 11] },
  { dst := some 20, op := .mov (.t 33), bef := [0, 1, 2, 3, 4, 5, 6, 7, 8, 9, 10, 11, 12] }]
def r8_18 : List VOper := [
  { dst := some 2, op := .mov (.c (.int .i64 2)) }]
def v8_19 : VCode := (.seq (.region false r8_18) (.keep [2] (.weak .ret)))
def r8_20 : List VOper := [
  { dst := some 35, op := .fieldAddr 1 (.t 4) },
  { dst := some 36, op := .load none (.t 35) },
  { dst := some 37, op := .fieldAddr 2 (.t 4) },
  { dst := some 38, op := .load none (.t 37) },
  { dst := some 39, op := .minmax false [(.t 36), (.t 38)] },
  { dst := some 40, op := .bin .lss (.t 39) (.c (.int .i64 0)) },
  { dst := some 41, op := .mov (.t 40) },
  { dst := some 42, op := .fieldAddr 1 (.t 4), guard := some (41, false) },
  { dst := some 43, op := .load none (.t 42), guard := some (41, false) },
  { dst := some 44, op := .fieldAddr 2 (.t 4), guard := some (41, false) },
  { dst := some 45, op := .load none (.t 44), guard := some (41, false) },
  { dst := some 46, op := .minmax true [(.t 43), (.t 45)], guard := some (41, false) },
  { dst := some 47, op := .bin .gtr (.t 46) (.c (.int .i64 9007199254740991)), guard := some (41, false) },
  { dst := some 48, op := .pick (.t 41) (.c (.bool true)) (.t 47) },
  { dst := some 34, op := .mov (.t 48) }]
def r8_21 : List VOper := [
  { dst := some 2, op := .mov (.c (.int .i64 5)) }]
def v8_22 : VCode := (.seq (.region false r8_21) (.keep [2] (.weak .ret)))
def v8_23 : VCode := (.keep [0, 8, 9, 10] (.weak .skip))
def v8_24 : VCode := (.cond (.t 34) v8_22 v8_23)
def v8_25 : VCode := (.seq (.region false r8_20) (.keep [0, 8, 9, 10, 34] (.weak v8_24)))
def v8_26 : VCode := (.cond (.t 20) v8_19 v8_25)
def v8_27 : VCode := (.seq (.region true r8_17) (.keep [0, 4, 8, 9, 10, 20] (.weak v8_26)))
def v8_28 : VCode := (.cond (.t 15) v8_16 v8_27)
def v8_29 : VCode := (.seq (.region false r8_14) (.keep [0, 3, 4, 8, 9, 10, 15] (.weak v8_28)))
def v8_30 : VCode := (.block 2 v8_29)
def v8_31 : VCode := (.seq (.region false r8_13) (.keep [0, 3, 4, 8, 9, 10] (.weak v8_30)))
def v8_32 : VCode := (.block 1 v8_31)
def r8_33 : List VOper := [
  { dst := some 49, op := .bin .add (.t 10) (.c (.int .i64 1)) },
  { dst := some 10, op := .mov (.t 49) }]
def v8_34 : VCode := (.post [0, 8, 9, 10] (.region false r8_33))
def v8_35 : VCode := (.seq v8_32 v8_34)
def v8_36 : VCode := (.seq v8_12 v8_35)
def v8_37 : VCode := (.seq (.region false r8_9) (.keep [0, 8, 9, 10, 11] (.weak v8_36)))
def v8_38 : VCode := (.loop [0, 8, 9, 10] v8_37)
def v8_39 : VCode := (.keep [0, 8, 9, 10] (.weak v8_38))
def v8_40 : VCode := (.block 0 v8_39)
def v8_41 : VCode := (.seq (.region false r8_8) (.keep [0, 8, 9, 10] (.weak v8_40)))
def r8_42 : List VOper := [
  { dst := some 2, op := .mov (.c (.int .i64 0)) }]
def v8_43 : VCode := (.seq (.region false r8_42) (.keep [2] (.weak .ret)))
def v8_44 : VCode := (.seq v8_41 v8_43)
def v8_45 : VCode := (.seq v8_7 v8_44)
def v8 : VCode := (.seq (.region false r8_1) (.keep [0] (.weak v8_45)))
theorem hv8 : codeOf Try.prog Try.f8.ntmps v8 (Try.f8.body.getD .skip) = some v8 := by kernel_rfl
theorem ok8 {ds : List PV} {r : PV} {fl : Bool} (h : vwp Try.prog v8 (retQ [(2, none)] r fl) (initSt ds)) : CallOK Try.prog 8 ds r fl :=
  fn_ok Try.func8 rfl (by decide) hv8 rfl mixed h

/- quota_Fits -/
def r16_1 : List VOper := [
  { dst := some 6, op := .box (some 2) (.t 1) },
  { dst := some 10, op := .mov (.c (.bool false)) }]
def r16_2 : List VOper := [
  { dst := some 16, op := .mov (.t 0) },
  { dst := some 17, op := .mov (.t 2) },
  { dst := some 18, op := .call 14 [(.t 16), (.t 17)] },
  { dst := some 15, op := .mov (.t 18) },
  { dst := some 19, op := .extract (.t 15) 0 },
  { dst := some 20, op := .extract (.t 15) 1 },
  { dst := some 11, op := .alloc (some 3) (.agg [.str [], .int .i64 0, .int .i64 0]) },
  { dst := none, op := .store (some 3) (.t 11) (.t 19) },
  { dst := some 12, op := .mov (.t 20) }]
def r16_3 : List VOper := [
  { dst := some 21, op := .mov (.t 12) },
  { dst := some 22, op := .not (.t 21) }]
def r16_4 : List VOper := [
  { dst := some 10, op := .mov (.c (.bool true)) }]
def v16_5 : VCode := (.seq (.region false r16_4) (.keep [10] (.weak .ret)))
def v16_6 : VCode := (.keep [2, 3, 4, 6, 11] (.weak .skip))
def v16_7 : VCode := (.cond (.t 22) v16_5 v16_6)
def v16_8 : VCode := (.seq (.region false r16_3) (.keep [2, 3, 4, 6, 11, 22] (.weak v16_7)))
def r16_9 : List VOper := [
  { dst := some 24, op := .load (some 2) (.t 6) },
  { dst := some 25, op := .mov (.t 2) },
  { dst := some 26, op := .call 12 [(.t 24), (.t 25)] },
  { dst := some 23, op := .mov (.t 26) },
  { dst := some 27, op := .extract (.t 23) 0 },
  { dst := some 28, op := .extract (.t 23) 1 },
  { dst := some 13, op := .mov (.t 27) },
  { dst := some 14, op := .mov (.t 28) }]
def r16_10 : List VOper := [
  { dst := some 29, op := .mov (.t 3) },
  { dst := some 30, op := .bin .leq (.t 29) (.c (.int .i64 0)) },
  { dst := some 31, op := .mov (.t 30) },
  { dst := some 32, op := .mov (.t 3), guard := some (31, false) },
  { dst := some 33, op := .fieldAddr 1 (.t 11), guard := some (31, false) },
  { dst := some 34, op := .load none (.t 33), guard := some (31, false) },
  { dst := some 35, op := .mov (.t 13), guard := some (31, false) },
  { dst := some 36, op := .bin .sub (.t 34) (.t 35), guard := some (31, false) },
  { dst := some 37, op := .bin .leq (.t 32) (.t 36), guard := some (31, false) },
  { dst := some 38, op := .pick (.t 31) (.c (.bool true)) (.t 37) },
  { dst := some 39, op := .mov (.t 38) },
  { dst := some 40, op := .mov (.t 4), guard := some (39, true) },
  { dst := some 41, op := .bin .leq (.t 40) (.c (.int .i64 0)), guard := some (39, true) },
  { dst := some 42, op := .mov (.t 41), guard := some (39, true) },
  { dst := some 43, op := .mov (.t 4), guard := some (42, false) },
  { dst := some 44, op := .fieldAddr 2 (.t 11), guard := some (42, false) },
  { dst := some 45, op := .load none (.t 44), guard := some (42, false) },
  { dst := some 46, op := .mov (.t 14), guard := some (42, false) },
  { dst := some 47, op := .bin .sub (.t 45) (.t 46), guard := some (42, false) },
  { dst := some 48, op := .bin .leq (.t 43) (.t 47), guard := some (42, false) },
  { dst := some 49, op := .pick (.t 42) (.c (.bool true)) (.t 48), guard := some (39, true) },
  { dst := some 50, op := .pick (.t 39) (.t 49) (.c (.bool false)) },
  { dst := some 10, op := .mov (.t 50) }]
def v16_11 : VCode := (.seq (.region false r16_10) (.keep [10] (.weak .ret)))
def v16_12 : VCode := (.seq (.region false r16_9) (.keep [3, 4, 11, 13, 14] (.weak v16_11)))
def v16_13 : VCode := (.seq v16_8 v16_12)
def v16_14 : VCode := (.seq (.region false r16_2) (.keep [2, 3, 4, 6, 11, 12] (.weak v16_13)))
def v16 : VCode := (.seq (.region false r16_1) (.keep [0, 2, 3, 4, 6] (.weak v16_14)))
theorem hv16 : codeOf Try.prog Try.f16.ntmps v16 (Try.f16.body.getD .skip) = some v16 := by kernel_rfl
theorem ok16 {ds : List PV} {r : PV} {fl : Bool} (h : vwp Try.prog v16 (retQ [(10, none)] r fl) (initSt ds)) : CallOK Try.prog 16 ds r fl :=
  fn_ok Try.func16 rfl (by decide) hv16 rfl mixed h

/- quota_Over -/
def r19_1 : List VOper := [
  { dst := some 3, op := .box (some 2) (.t 1) },
  { dst := some 4, op := .mov (.c (.nilsl)) }]
def r19_2 : List VOper := [
  { dst := some 5, op := .mov (.c (.nilsl)) }]
def r19_3 : List VOper := [
  { dst := some 10, op := .mov (.t 0) },
  { dst := some 11, op := .lenSl (.t 10) },
  { dst := some 12, op := .mov (.c (.int .i64 0)) }]
def r19_4 : List VOper := [
  { dst := some 13, op := .bin .lss (.t 12) (.t 11) }]
def v19_5 : VCode := (.keep [3, 5, 10, 11, 12] (.weak .skip))
def v19_6 : VCode := (.keep [5] (.weak (.exit 0)))
def v19_7 : VCode := (.cond (.t 13) v19_5 v19_6)
def r19_8 : List VOper := [
  { dst := some 14, op := .indexAddr (some 3) (.t 10) (.t 12) },
  { dst := some 15, op := .load (some 3) (.t 14) },
  { dst := some 7, op := .alloc (some 3) (.agg [.str [], .int .i64 0, .int .i64 0]) },
  { dst := none, op := .store (some 3) (.t 7) (.t 15) }]
def r19_9 : List VOper := [
  { dst := some 17, op := .load (some 2) (.t 3) },
  { dst := some 18, op := .fieldAddr 0 (.t 7) },
  { dst := some 19, op := .load none (.t 18) },
  { dst := some 20, op := .call 12 [(.t 17), (.t 19)] },
  { dst := some 16, op := .mov (.t 20) },
  { dst := some 21, op := .extract (.t 16) 0 },
  { dst := some 22, op := .extract (.t 16) 1 },
  { dst := some 8, op := .mov (.t 21) },
  { dst := some 9, op := .mov (.t 22) }]
def r19_10 : List VOper := [
  { dst := some 23, op := .mov (.t 8) },
  { dst := some 24, op := .fieldAddr 1 (.t 7) },
  { dst := some 25, op := .load none (.t 24) },
  { dst := some 26, op := .bin .gtr (.t 23) (.t 25) },
  { dst := some 27, op := .mov (.t 26) },
  { dst := some 28, op := .mov (.t 9), guard := some (27, false) },
  { dst := some 29, op := .fieldAddr 2 (.t 7), guard := some (27, false) },
  { dst := some 30, op := .load none (.t 29), guard := some (27, false) },
  { dst := some 31, op := .bin .gtr (.t 28) (.t 30), guard := some (27, false) },
  { dst := some 32, op := .pick (.t 27) (.c (.bool true)) (.t 31) }]
def r19_11 : List VOper := [
  { dst := some 33, op := .mov (.t 5) },
  { dst := some 34, op := .fieldAddr 0 (.t 7) },
  { dst := some 35, op := .load none (.t 34) },
  { dst := some 36, op := .buildSlice none (.str []) 1 [(0, (.t 35))] },
  { dst := some 37, op := .append none 16 (.t 33) (.t 36) },
  { dst := some 5, op := .mov (.t 37) }]
def v19_12 : VCode := (.post [3, 5, 10, 11, 12] (.region false r19_11))
def v19_13 : VCode := (.keep [3, 5, 10, 11, 12] (.weak .skip))
def v19_14 : VCode := (.cond (.t 32) v19_12 v19_13)
def v19_15 : VCode := (.seq (.region false r19_10) (.keep [3, 5, 7, 10, 11, 12, 32] (.weak v19_14)))
def v19_16 : VCode := (.seq (.region false r19_9) (.keep [3, 5, 7, 8, 9, 10, 11, 12] (.weak v19_15)))
def v19_17 : VCode := (.seq (.region false r19_8) (.keep [3, 5, 7, 10, 11, 12] (.weak v19_16)))
def v19_18 : VCode := (.block 1 v19_17)
def r19_19 : List VOper := [
  { dst := some 38, op := .bin .add (.t 12) (.c (.int .i64 1)) },
  { dst := some 12, op := .mov (.t 38) }]
def v19_20 : VCode := (.post [3, 5, 10, 11, 12] (.region false r19_19))
def v19_21 : VCode := (.seq v19_18 v19_20)
def v19_22 : VCode := (.seq v19_7 v19_21)
def v19_23 : VCode := (.seq (.region false r19_4) (.keep [3, 5, 10, 11, 12, 13] (.weak v19_22)))
def v19_24 : VCode := (.loop [3, 5, 10, 11, 12] v19_23)
def v19_25 : VCode := (.keep [3, 5, 10, 11, 12] (.weak v19_24))
def v19_26 : VCode := (.block 0 v19_25)
def v19_27 : VCode := (.seq (.region false r19_3) (.keep [3, 5, 10, 11, 12] (.weak v19_26)))
def r19_28 : List VOper := [
  { dst := some 39, op := .mov (.t 5) },
  { dst := some 4, op := .mov (.t 39) }]
def v19_29 : VCode := (.seq (.region false r19_28) (.keep [4] (.weak .ret)))
def v19_30 : VCode := (.seq v19_27 v19_29)
def v19_31 : VCode := (.seq (.region false r19_2) (.keep [0, 3, 5] (.weak v19_30)))
def v19 : VCode := (.seq (.region false r19_1) (.keep [0, 3] (.weak v19_31)))
theorem hv19 : codeOf Try.prog Try.f19.ntmps v19 (Try.f19.body.getD .skip) = some v19 := by kernel_rfl
theorem ok19 {ds : List PV} {r : PV} {fl : Bool} (h : vwp Try.prog v19 (retQ [(4, none)] r fl) (initSt ds)) : CallOK Try.prog 19 ds r fl :=
  fn_ok Try.func19 rfl (by decide) hv19 rfl mixed h

/- ref12_Names -/
def r18_1 : List VOper := [
  { dst := some 4, op := .mov (.c (.bool false)) }]
def r18_2 : List VOper := [
  { dst := some 6, op := .mov (.t 0) },
  { dst := some 7, op := .lenSl (.t 6) },
  { dst := some 8, op := .mov (.t 1) },
  { dst := some 9, op := .lenSl (.t 8) },
  { dst := some 10, op := .bin .neq (.t 7) (.t 9) }]
def r18_3 : List VOper := [
  { dst := some 4, op := .mov (.c (.bool false)) }]
def v18_4 : VCode := (.seq (.region false r18_3) (.keep [4] (.weak .ret)))
def v18_5 : VCode := (.keep [0, 1] (.weak .skip))
def v18_6 : VCode := (.cond (.t 10) v18_4 v18_5)
def v18_7 : VCode := (.seq (.region false r18_2) (.keep [0, 1, 10] (.weak v18_6)))
def r18_8 : List VOper := [
  { dst := some 5, op := .mov (.c (.int .i64 0)) }]
def r18_9 : List VOper := [
  { dst := some 11, op := .mov (.t 5) },
  { dst := some 12, op := .mov (.t 0) },
  { dst := some 13, op := .lenSl (.t 12) },
  { dst := some 14, op := .bin .lss (.t 11) (.t 13) }]
def v18_10 : VCode := (.keep [0, 1, 5] (.weak .skip))
def v18_11 : VCode := (.keep [] (.weak (.exit 0)))
def v18_12 : VCode := (.cond (.t 14) v18_10 v18_11)
def v18_13 : VCode := (.seq (.region false r18_9) (.keep [0, 1, 5, 14] (.weak v18_12)))
def r18_14 : List VOper := [
  { dst := some 17, op := .mov (.t 0) },
  { dst := some 18, op := .mov (.t 5) },
  { dst := some 19, op := .indexAddr none (.t 17) (.t 18), bef := [0, 1] },
  { dst := some 20, op := .load none (.t 19), bef := [0, 1, 2] },
  { dst := some 21, op := .mov (.t 1) },
  { dst := some 22, op := .mov (.t 5) },
  { dst := some 23, op := .indexAddr none (.t 21) (.t 22), bef := [4, 5] },
  { dst := some 24, op := .load none (.t 23), bef := [4, 5, 6] },
  { dst := some 25, op := .bin .neq (.t 20) (.t 24), bef := [0, 1, 2, 3, 4, 5, 6, 7] }]
def r18_15 : List VOper := [
  { dst := some 4, op := .mov (.c (.bool false)) }]
def v18_16 : VCode := (.seq (.region false r18_15) (.keep [4] (.weak .ret)))
def v18_17 : VCode := (.keep [0, 1, 5] (.weak .skip))
def v18_18 : VCode := (.cond (.t 25) v18_16 v18_17)
def v18_19 : VCode := (.seq (.region true r18_14) (.keep [0, 1, 5, 25] (.weak v18_18)))
def v18_20 : VCode := (.block 1 v18_19)
def r18_21 : List VOper := [
  { dst := some 15, op := .mov (.t 5) },
  { dst := some 16, op := .bin .add (.t 15) (.c (.int .i64 1)) },
  { dst := some 5, op := .mov (.t 16) }]
def v18_22 : VCode := (.post [0, 1, 5] (.region false r18_21))
def v18_23 : VCode := (.seq v18_20 v18_22)
def v18_24 : VCode := (.seq v18_13 v18_23)
def v18_25 : VCode := (.loop [0, 1, 5] v18_24)
def v18_26 : VCode := (.keep [0, 1, 5] (.weak v18_25))
def v18_27 : VCode := (.block 0 v18_26)
def v18_28 : VCode := (.seq (.region false r18_8) (.keep [0, 1, 5] (.weak v18_27)))
def r18_29 : List VOper := [
  { dst := some 4, op := .mov (.c (.bool true)) }]
def v18_30 : VCode := (.seq (.region false r18_29) (.keep [4] (.weak .ret)))
def v18_31 : VCode := (.seq v18_28 v18_30)
def v18_32 : VCode := (.seq v18_7 v18_31)
def v18 : VCode := (.seq (.region false r18_1) (.keep [0, 1] (.weak v18_32)))
theorem hv18 : codeOf Try.prog Try.f18.ntmps v18 (Try.f18.body.getD .skip) = some v18 := by kernel_rfl
theorem ok18 {ds : List PV} {r : PV} {fl : Bool} (h : vwp Try.prog v18 (retQ [(4, none)] r fl) (initSt ds)) : CallOK Try.prog 18 ds r fl :=
  fn_ok Try.func18 rfl (by decide) hv18 rfl mixed h

/- law12_alive -/
def r10_1 : List VOper := [
  { dst := some 0, op := .mov (.c (.bool false)) }]
def r10_2 : List VOper := [
  { dst := some 6, op := .build [.str [], .int .i64 0, .int .i64 0] [(0, 1, (.c (.str [97, 110, 110]))), (1, 1, (.c (.int .i64 3))), (2, 1, (.c (.int .i64 4)))] },
  { dst := some 7, op := .buildSlice (some 3) (.agg [.str [], .int .i64 0, .int .i64 0]) 1 [(0, (.t 6))] },
  { dst := some 1, op := .mov (.t 7) }]
def r10_3 : List VOper := [
  { dst := some 9, op := .call 23 [] },
  { dst := some 10, op := .call 12 [(.t 9), (.c (.str [97, 110, 110]))] },
  { dst := some 8, op := .mov (.t 10) },
  { dst := some 11, op := .extract (.t 8) 0 },
  { dst := some 12, op := .extract (.t 8) 1 },
  { dst := some 2, op := .mov (.t 11) },
  { dst := some 3, op := .mov (.t 12) }]
def r10_4 : List VOper := [
  { dst := some 14, op := .mov (.t 1) },
  { dst := some 15, op := .call 14 [(.t 14), (.c (.str [98, 111, 98]))] },
  { dst := some 13, op := .mov (.t 15) },
  { dst := some 16, op := .extract (.t 13) 0 },
  { dst := some 17, op := .extract (.t 13) 1 },
  { dst := some 4, op := .alloc (some 3) (.agg [.str [], .int .i64 0, .int .i64 0]) },
  { dst := none, op := .store (some 3) (.t 4) (.t 16) },
  { dst := some 5, op := .mov (.t 17) }]
def r10_5 : List VOper := [
  { dst := some 18, op := .mov (.t 1) },
  { dst := some 19, op := .call 8 [(.t 18)], bef := [0] },
  { dst := some 20, op := .bin .eql (.t 19) (.c (.int .i64 0)), bef := [0, 1] },
  { dst := some 21, op := .mov (.t 20), bef := [0, 1, 2] },
  { dst := some 22, op := .mov (.t 1), guard := some (21, true), bef := [0, 1, 2, 3] },
  { dst := some 23, op := .indexAddr (some 3) (.t 22) (.c (.int .i64 0)), guard := some (21, true), bef := [0, 1, 2, 3, 4] },
  { dst := some 24, op := .load (some 3) (.t 23), guard := some (21, true), bef := [0, 1, 2, 3, 4, 5] },
  { dst := some 25, op := .mov (.t 1), guard := some (21, true), bef := [0, 1, 2, 3] },
  { dst := some 26, op := .indexAddr (some 3) (.t 25) (.c (.int .i64 0)), guard := some (21, true), bef := [0, 1, 2, 3, 7] },
  { dst := some 27, op := .load (some 3) (.t 26), guard := some (21, true), bef := [0, 1, 2, 3, 7, 8] },
  { dst := some 28, op := .buildSlice (some 3) (.agg [.str [], .int .i64 0, .int .i64 0]) 2 [(0, (.t 24)), (1, (.t 27))], guard := some (21, true), bef := [0, 1, 2, 3, 4, 5, 6, 7, 8, 9] },
  { dst := some 29, op := .call 8 [(.t 28)], guard := some (21, true), bef := [0, 1, 2, 3, 4, 5, 6, 7, 8, 9, 10] },
  { dst := some 30, op := .bin .eql (.t 29) (.c (.int .i64 2)), guard := some (21, true), bef := [0, 1, 2, 3, 4, 5, 6, 7, 8, 9, 10, 11] },
  { dst := some 31, op := .pick (.t 21) (.t 30) (.c (.bool false)), bef := [0, 1, 2, 3, 4, 5, 6, 7, 8, 9, 10, 11, 12] },
  { dst := some 32, op := .mov (.t 31), bef := [0, 1, 2, 3, 4, 5, 6, 7, 8, 9, 10, 11, 12, 13] },
  { dst := some 33, op := .mov (.t 2), guard := some (32, true), bef := [0, 1, 2, 3, 4, 5, 6, 7, 8, 9, 10, 11, 12, 13, 14] },
  { dst := some 34, op := .bin .eql (.t 33) (.c (.int .i64 2)), guard := some (32, true), bef := [0, 1, 2, 3, 4, 5, 6, 7, 8, 9, 10, 11, 12, 13, 14, 15] },
  { dst := some 35, op := .pick (.t 32) (.t 34) (.c (.bool false)), bef := [0, 1, 2, 3, 4, 5, 6, 7, 8, 9, 10, 11, 12, 13, 14, 15, 16] },
  { dst := some 36, op := .mov (.t 35), bef := [0, 1, 2, 3, 4, 5, 6, 7, 8, 9, 10, 11, 12, 13, 14, 15, 16, 17] },
  { dst := some 37, op := .mov (.t 3), guard := some (36, true), bef := [0, 1, 2, 3, 4, 5, 6, 7, 8, 9, 10, 11, 12, 13, 14, 15, 16, 17, 18] },
  { dst := some 38, op := .bin .eql (.t 37) (.c (.int .i64 3)), guard := some (36, true), bef := [0, 1, 2, 3, 4, 5, 6, 7, 8, 9, 10, 11, 12, 13, 14, 15, 16, 17, 18, 19] },
  { dst := some 39, op := .pick (.t 36) (.t 38) (.c (.bool false)), bef := [0, 1, 2, 3, 4, 5, 6, 7, 8, 9, 10, 11, 12, 13, 14, 15, 16, 17, 18, 19, 20] },
  { dst := some 40, op := .mov (.t 39), bef := [0, 1, 2, 3, 4, 5, 6, 7, 8, 9, 10, 11, 12, 13, 14, 15, 16, 17, 18, 19, 20, 21] },
  { dst := some 41, op := .mov (.t 5), guard := some (40, true), bef := [0, 1, 2, 3, 4, 5, 6, 7, 8, 9, 10, 11, 12, 13, 14, 15, 16, 17, 18, 19, 20, 21, 22] },
  { dst := some 42, op := .not (.t 41), guard := some (40, true), bef := [0, 1, 2, 3, 4, 5, 6, 7, 8, 9, 10, 11, 12, 13, 14, 15, 16, 17, 18, 19, 20, 21, 22, 23] },
  { dst := some 43, op := .pick (.t 40) (.t 42) (.c (.bool false)), bef := [0, 1, 2, 3, 4, 5, 6, 7, 8, 9, 10, 11, 12, 13, 14, 15, 16, 17, 18, 19, 20, 21, 22, 23, 24] },
  { dst := some 44, op := .mov (.t 43), bef := [0, 1, 2, 3, 4, 5, 6, 7, 8, 9, 10, 11, 12, 13, 14, 15, 16, 17, 18, 19, 20, 21, 22, 23, 24, 25] },
  { dst := some 45, op := .mov (.t 1), guard := some (44, true), bef := [0, 1, 2, 3, 4, 5, 6, 7, 8, 9, 10, 11, 12, 13, 14, 15, 16, 17, 18, 19, 20, 21, 22, 23, 24, 25, 26] },
  { dst := some 46, op := .call 23 [], guard := some (44, true), bef := [0, 1, 2, 3, 4, 5, 6, 7, 8, 9, 10, 11, 12, 13, 14, 15, 16, 17, 18, 19, 20, 21, 22, 23, 24, 25, 26] },
  { dst := some 47, op := .call 16 [(.t 45), (.t 46), (.c (.str [97, 110, 110])), (.c (.int .i64 1)), (.c (.int .i64 1))], guard := some (44, true), bef := [0, 1, 2, 3, 4, 5, 6, 7, 8, 9, 10, 11, 12, 13, 14, 15, 16, 17, 18, 19, 20, 21, 22, 23, 24, 25, 26, 27, 28] },
  { dst := some 48, op := .pick (.t 44) (.t 47) (.c (.bool false)), bef := [0, 1, 2, 3, 4, 5, 6, 7, 8, 9, 10, 11, 12, 13, 14, 15, 16, 17, 18, 19, 20, 21, 22, 23, 24, 25, 26, 27, 28, 29] },
  { dst := some 49, op := .mov (.t 48), bef := [0, 1, 2, 3, 4, 5, 6, 7, 8, 9, 10, 11, 12, 13, 14, 15, 16, 17, 18, 19, 20, 21, 22, 23, 24, 25, 26, 27, 28, 29, 30] },
  { dst := some 50, op := .mov (.t 1), guard := some (49, true), bef := [0, 1, 2, 3, 4, 5, 6, 7, 8, 9, 10, 11, 12, 13, 14, 15, 16, 17, 18, 19, 20, 21, 22, 23, 24, 25, 26, 27, 28, 29, 30, 31] },
  { dst := some 51, op := .call 23 [], guard := some (49, true), bef := [0, 1, 2, 3, 4, 5, 6, 7, 8, 9, 10, 11, 12, 13, 14, 15, 16, 17, 18, 19, 20, 21, 22, 23, 24, 25, 26, 27, 28, 29, 30, 31] },
  { dst := some 52, op := .call 16 [(.t 50), (.t 51), (.c (.str [97, 110, 110])), (.c (.int .i64 2)), (.c (.int .i64 0))], guard := some (49, true), bef := [0, 1, 2, 3, 4, 5, 6, 7, 8, 9, 10, 11, 12, 13, 14, 15, 16, 17, 18, 19, 20, 21, 22, 23, 24, 25, 26, 27, 28, 29, 30, 31, 32, 33] },
  { dst := some 53, op := .not (.t 52), guard := some (49, true), bef := [0, 1, 2, 3, 4, 5, 6, 7, 8, 9, 10, 11, 12, 13, 14, 15, 16, 17, 18, 19, 20, 21, 22, 23, 24, 25, 26, 27, 28, 29, 30, 31, 32, 33, 34] },
  { dst := some 54, op := .pick (.t 49) (.t 53) (.c (.bool false)), bef := [0, 1, 2, 3, 4, 5, 6, 7, 8, 9, 10, 11, 12, 13, 14, 15, 16, 17, 18, 19, 20, 21, 22, 23, 24, 25, 26, 27, 28, 29, 30, 31, 32, 33, 34, 35] },
  { dst := some 55, op := .mov (.t 54), bef := [0, 1, 2, 3, 4, 5, 6, 7, 8, 9, 10, 11, 12, 13, 14, 15, 16, 17, 18, 19, 20, 21, 22, 23, 24, 25, 26, 27, 28, 29, 30, 31, 32, 33, 34, 35, 36] },
  { dst := some 56, op := .mov (.t 1), guard := some (55, true), bef := [0, 1, 2, 3, 4, 5, 6, 7, 8, 9, 10, 11, 12, 13, 14, 15, 16, 17, 18, 19, 20, 21, 22, 23, 24, 25, 26, 27, 28, 29, 30, 31, 32, 33, 34, 35, 36, 37] },
  { dst := some 57, op := .call 23 [], guard := some (55, true), bef := [0, 1, 2, 3, 4, 5, 6, 7, 8, 9, 10, 11, 12, 13, 14, 15, 16, 17, 18, 19, 20, 21, 22, 23, 24, 25, 26, 27, 28, 29, 30, 31, 32, 33, 34, 35, 36, 37] },
  { dst := some 58, op := .call 16 [(.t 56), (.t 57), (.c (.str [97, 110, 110])), (.c (.int .i64 0)), (.c (.int .i64 2))], guard := some (55, true), bef := [0, 1, 2, 3, 4, 5, 6, 7, 8, 9, 10, 11, 12, 13, 14, 15, 16, 17, 18, 19, 20, 21, 22, 23, 24, 25, 26, 27, 28, 29, 30, 31, 32, 33, 34, 35, 36, 37, 38, 39] },
  { dst := some 59, op := .not (.t 58), guard := some (55, true), bef := [0, 1, 2, 3, 4, 5, 6, 7, 8, 9, 10, 11, 12, 13, 14, 15, 16, 17, 18, 19, 20, 21, 22, 23, 24, 25, 26, 27, 28, 29, 30, 31, 32, 33, 34, 35, 36, 37, 38, 39, 40] },
  { dst := some 60, op := .pick (.t 55) (.t 59) (.c (.bool false)), bef := [0, 1, 2, 3, 4, 5, 6, 7, 8, 9, 10, 11, 12, 13, 14, 15, 16, 17, 18, 19, 20, 21, 22, 23, 24, 25, 26, 27, 28, 29, 30, 31, 32, 33, 34, 35, 36, 37, 38, 39, 40, 41] },
  { dst := some 61, op := .mov (.t 60), bef := [0, 1, 2, 3, 4, 5, 6, 7, 8, 9, 10, 11, 12, 13, 14, 15, 16, 17, 18, 19, 20, 21, 22, 23, 24, 25, 26, 27, 28, 29, 30, 31, 32, 33, 34, 35, 36, 37, 38, 39, 40, 41, 42] },
  { dst := some 62, op := .mov (.t 1), guard := some (61, true), bef := [0, 1, 2, 3, 4, 5, 6, 7, 8, 9, 10, 11, 12, 13, 14, 15, 16, 17, 18, 19, 20, 21, 22, 23, 24, 25, 26, 27, 28, 29, 30, 31, 32, 33, 34, 35, 36, 37, 38, 39, 40, 41, 42, 43] },
  { dst := some 63, op := .call 23 [], guard := some (61, true), bef := [0, 1, 2, 3, 4, 5, 6, 7, 8, 9, 10, 11, 12, 13, 14, 15, 16, 17, 18, 19, 20, 21, 22, 23, 24, 25, 26, 27, 28, 29, 30, 31, 32, 33, 34, 35, 36, 37, 38, 39, 40, 41, 42, 43] },
  { dst := some 64, op := .call 16 [(.t 62), (.t 63), (.c (.str [98, 111, 98])), (.c (.int .i64 9)), (.c (.int .i64 9))], guard := some (61, true), bef := [0, 1, 2, 3, 4, 5, 6, 7, 8, 9, 10, 11, 12, 13, 14, 15, 16, 17, 18, 19, 20, 21, 22, 23, 24, 25, 26, 27, 28, 29, 30, 31, 32, 33, 34, 35, 36, 37, 38, 39, 40, 41, 42, 43, 44, 45] },
  { dst := some 65, op := .pick (.t 61) (.t 64) (.c (.bool false)), bef := [0, 1, 2, 3, 4, 5, 6, 7, 8, 9, 10, 11, 12, 13, 14, 15, 16, 17, 18, 19, 20, 21, 22, 23, 24, 25, 26, 27, 28, 29, 30, 31, 32, 33, 34, 35, 36, 37, 38, 39, 40, 41, 42, 43, 44, 45, 46] },
  { dst := some 66, op := .mov (.t 65), bef := [0, 1, 2, 3, 4, 5, 6, 7, 8, 9, 10, 11, 12, 13, 14, 15, 16, 17, 18, 19, 20, 21, 22, 23, 24, 25, 26, 27, 28, 29, 30, 31, 32, 33, 34, 35, 36, 37, 38, 39, 40, 41, 42, 43, 44, 45, 46, 47] },
  { dst := some 67, op := .build [.str [], .int .i64 0, .int .i64 0] [(0, 1, (.c (.str [97, 110, 110]))), (1, 1, (.c (.int .i64 1))), (2, 1, (.c (.int .i64 4)))], guard := some (66, true), bef := [0, 1, 2, 3, 4, 5, 6, 7, 8, 9, 10, 11, 12, 13, 14, 15, 16, 17, 18, 19, 20, 21, 22, 23, 24, 25, 26, 27, 28, 29, 30, 31, 32, 33, 34, 35, 36, 37, 38, 39, 40, 41, 42, 43, 44, 45, 46, 47, 48] },
  { dst := some 68, op := .buildSlice (some 3) (.agg [.str [], .int .i64 0, .int .i64 0]) 1 [(0, (.t 67))], guard := some (66, true), bef := [0, 1, 2, 3, 4, 5, 6, 7, 8, 9, 10, 11, 12, 13, 14, 15, 16, 17, 18, 19, 20, 21, 22, 23, 24, 25, 26, 27, 28, 29, 30, 31, 32, 33, 34, 35, 36, 37, 38, 39, 40, 41, 42, 43, 44, 45, 46, 47, 48, 49] },
  { dst := some 69, op := .call 23 [], guard := some (66, true), bef := [0, 1, 2, 3, 4, 5, 6, 7, 8, 9, 10, 11, 12, 13, 14, 15, 16, 17, 18, 19, 20, 21, 22, 23, 24, 25, 26, 27, 28, 29, 30, 31, 32, 33, 34, 35, 36, 37, 38, 39, 40, 41, 42, 43, 44, 45, 46, 47, 48] },
  { dst := some 70, op := .call 19 [(.t 68), (.t 69)], guard := some (66, true), bef := [0, 1, 2, 3, 4, 5, 6, 7, 8, 9, 10, 11, 12, 13, 14, 15, 16, 17, 18, 19, 20, 21, 22, 23, 24, 25, 26, 27, 28, 29, 30, 31, 32, 33, 34, 35, 36, 37, 38, 39, 40, 41, 42, 43, 44, 45, 46, 47, 48, 49, 50, 51] },
  { dst := some 71, op := .buildSlice none (.str []) 1 [(0, (.c (.str [97, 110, 110])))], guard := some (66, true), bef := [0, 1, 2, 3, 4, 5, 6, 7, 8, 9, 10, 11, 12, 13, 14, 15, 16, 17, 18, 19, 20, 21, 22, 23, 24, 25, 26, 27, 28, 29, 30, 31, 32, 33, 34, 35, 36, 37, 38, 39, 40, 41, 42, 43, 44, 45, 46, 47, 48] },
  { dst := some 72, op := .call 18 [(.t 70), (.t 71)], guard := some (66, true), bef := [0, 1, 2, 3, 4, 5, 6, 7, 8, 9, 10, 11, 12, 13, 14, 15, 16, 17, 18, 19, 20, 21, 22, 23, 24, 25, 26, 27, 28, 29, 30, 31, 32, 33, 34, 35, 36, 37, 38, 39, 40, 41, 42, 43, 44, 45, 46, 47, 48, 49, 50, 51, 52, 53] },
  { dst := some 73, op := .pick (.t 66) (.t 72) (.c (.bool false)), bef := [0, 1, 2, 3, 4, 5, 6, 7, 8, 9, 10, 11, 12, 13, 14, 15, 16, 17, 18, 19, 20, 21, 22, 23, 24, 25, 26, 27, 28, 29, 30, 31, 32, 33, 34, 35, 36, 37, 38, 39, 40, 41, 42, 43, 44, 45, 46, 47, 48, 49, 50, 51, 52, 53, 54] },
  { dst := some 0, op := .mov (.t 73), bef := [0, 1, 2, 3, 4, 5, 6, 7, 8, 9, 10, 11, 12, 13, 14, 15, 16, 17, 18, 19, 20, 21, 22, 23, 24, 25, 26, 27, 28, 29, 30, 31, 32, 33, 34, 35, 36, 37, 38, 39, 40, 41, 42, 43, 44, 45, 46, 47, 48, 49, 50, 51, 52, 53, 54, 55] }]
def v10_6 : VCode := (.seq (.region true r10_5) (.keep [0] (.weak .ret)))
def v10_7 : VCode := (.seq (.region false r10_4) (.keep [1, 2, 3, 5] (.weak v10_6)))
def v10_8 : VCode := (.seq (.region false r10_3) (.keep [1, 2, 3] (.weak v10_7)))
def v10_9 : VCode := (.seq (.region false r10_2) (.keep [1] (.weak v10_8)))
def v10 : VCode := (.seq (.region false r10_1) (.keep [] (.weak v10_9)))
theorem hv10 : codeOf Try.prog Try.f10.ntmps v10 (Try.f10.body.getD .skip) = some v10 := by kernel_rfl
theorem ok10 {ds : List PV} {r : PV} {fl : Bool} (h : vwp Try.prog v10 (retQ [(0, none)] r fl) (initSt ds)) : CallOK Try.prog 10 ds r fl :=
  fn_ok Try.func10 rfl (by decide) hv10 rfl mixed h

/- ref05_Valid -/
def r22_1 : List VOper := [
  { dst := some 2, op := .mov (.c (.bool false)) }]
def r22_2 : List VOper := [
  { dst := some 6, op := .mov (.t 0) },
  { dst := some 7, op := .lenStr (.t 6) },
  { dst := some 8, op := .bin .lss (.t 7) (.c (.int .i64 1)) },
  { dst := some 9, op := .mov (.t 8) },
  { dst := some 10, op := .mov (.t 0), guard := some (9, false) },
  { dst := some 11, op := .lenStr (.t 10), guard := some (9, false) },
  { dst := some 12, op := .bin .gtr (.t 11) (.c (.int .i64 32)), guard := some (9, false) },
  { dst := some 13, op := .pick (.t 9) (.c (.bool true)) (.t 12) }]
def r22_3 : List VOper := [
  { dst := some 2, op := .mov (.c (.bool false)) }]
def v22_4 : VCode := (.seq (.region false r22_3) (.keep [2] (.weak .ret)))
def v22_5 : VCode := (.keep [0] (.weak .skip))
def v22_6 : VCode := (.cond (.t 13) v22_4 v22_5)
def v22_7 : VCode := (.seq (.region false r22_2) (.keep [0, 13] (.weak v22_6)))
def r22_8 : List VOper := [
  { dst := some 3, op := .mov (.c (.int .i64 0)) }]
def r22_9 : List VOper := [
  { dst := some 14, op := .mov (.t 3) },
  { dst := some 15, op := .mov (.t 0) },
  { dst := some 16, op := .lenStr (.t 15) },
  { dst := some 17, op := .bin .lss (.t 14) (.t 16) }]
def v22_10 : VCode := (.keep [0, 3] (.weak .skip))
def v22_11 : VCode := (.keep [] (.weak (.exit 0)))
def v22_12 : VCode := (.cond (.t 17) v22_10 v22_11)
def v22_13 : VCode := (.seq (.region false r22_9) (.keep [0, 3, 17] (.weak v22_12)))
def r22_14 : List VOper := [
  { dst := some 20, op := .mov (.t 0) },
  { dst := some 21, op := .mov (.t 3) },
  { dst := some 22, op := .indexStr (.t 20) (.t 21) },
  { dst := some 4, op := .mov (.t 22) }]
def r22_15 : List VOper := [
  { dst := some 23, op := .mov (.t 4) },
  { dst := some 24, op := .bin .geq (.t 23) (.c (.int .u8 97)) },
  { dst := some 25, op := .mov (.t 24) },
  { dst := some 26, op := .mov (.t 4), guard := some (25, true) },
  { dst := some 27, op := .bin .leq (.t 26) (.c (.int .u8 122)), guard := some (25, true) },
  { dst := some 28, op := .pick (.t 25) (.t 27) (.c (.bool false)) },
  { dst := some 5, op := .mov (.t 28) }]
def r22_16 : List VOper := [
  { dst := some 29, op := .mov (.t 5) },
  { dst := some 30, op := .not (.t 29) },
  { dst := some 31, op := .mov (.t 30) },
  { dst := some 32, op := .mov (.t 3), guard := some (31, true) },
  { dst := some 33, op := .bin .eql (.t 32) (.c (.int .i64 0)), guard := some (31, true) },
  { dst := some 34, op := .mov (.t 33), guard := some (31, true) },
  { dst := some 35, op := .mov (.t 4), guard := some (34, false) },
  { dst := some 36, op := .bin .geq (.t 35) (.c (.int .u8 48)), guard := some (34, false) },
  { dst := some 37, op := .mov (.t 36), guard := some (34, false) },
  { dst := some 38, op := .mov (.t 4), guard := some (37, true) },
  { dst := some 39, op := .bin .leq (.t 38) (.c (.int .u8 57)), guard := some (37, true) },
  { dst := some 40, op := .pick (.t 37) (.t 39) (.c (.bool false)), guard := some (34, false) },
  { dst := some 41, op := .not (.t 40), guard := some (34, false) },
  { dst := some 42, op := .mov (.t 41), guard := some (34, false) },
  { dst := some 43, op := .mov (.t 4), guard := some (42, true) },
  { dst := some 44, op := .bin .neq (.t 43) (.c (.int .u8 45)), guard := some (42, true) },
  { dst := some 45, op := .pick (.t 42) (.t 44) (.c (.bool false)), guard := some (34, false) },
  { dst := some 46, op := .mov (.t 45), guard := some (34, false) },
  { dst := some 47, op := .mov (.t 4), guard := some (46, true) },
  { dst := some 48, op := .bin .neq (.t 47) (.c (.int .u8 95)), guard := some (46, true) },
  { dst := some 49, op := .pick (.t 46) (.t 48) (.c (.bool false)), guard := some (34, false) },
  { dst := some 50, op := .pick (.t 34) (.c (.bool true)) (.t 49), guard := some (31, true) },
  { dst := some 51, op := .pick (.t 31) (.t 50) (.c (.bool false)) }]
def r22_17 : List VOper := [
  { dst := some 2, op := .mov (.c (.bool false)) }]
def v22_18 : VCode := (.seq (.region false r22_17) (.keep [2] (.weak .ret)))
def v22_19 : VCode := (.keep [0, 3] (.weak .skip))
def v22_20 : VCode := (.cond (.t 51) v22_18 v22_19)
def v22_21 : VCode := (.seq (.region false r22_16) (.keep [0, 3, 51] (.weak v22_20)))
def v22_22 : VCode := (.seq (.region false r22_15) (.keep [0, 3, 4, 5] (.weak v22_21)))
def v22_23 : VCode := (.seq (.region false r22_14) (.keep [0, 3, 4] (.weak v22_22)))
def v22_24 : VCode := (.block 1 v22_23)
def r22_25 : List VOper := [
  { dst := some 18, op := .mov (.t 3) },
  { dst := some 19, op := .bin .add (.t 18) (.c (.int .i64 1)) },
  { dst := some 3, op := .mov (.t 19) }]
def v22_26 : VCode := (.post [0, 3] (.region false r22_25))
def v22_27 : VCode := (.seq v22_24 v22_26)
def v22_28 : VCode := (.seq v22_13 v22_27)
def v22_29 : VCode := (.loop [0, 3] v22_28)
def v22_30 : VCode := (.keep [0, 3] (.weak v22_29))
def v22_31 : VCode := (.block 0 v22_30)
def v22_32 : VCode := (.seq (.region false r22_8) (.keep [0, 3] (.weak v22_31)))
def r22_33 : List VOper := [
  { dst := some 2, op := .mov (.c (.bool true)) }]
def v22_34 : VCode := (.seq (.region false r22_33) (.keep [2] (.weak .ret)))
def v22_35 : VCode := (.seq v22_32 v22_34)
def v22_36 : VCode := (.seq v22_7 v22_35)
def v22 : VCode := (.seq (.region false r22_1) (.keep [0] (.weak v22_36)))
theorem hv22 : codeOf Try.prog Try.f22.ntmps v22 (Try.f22.body.getD .skip) = some v22 := by kernel_rfl
theorem ok22 {ds : List PV} {r : PV} {fl : Bool} (h : vwp Try.prog v22 (retQ [(2, none)] r fl) (initSt ds)) : CallOK Try.prog 22 ds r fl :=
  fn_ok Try.func22 rfl (by decide) hv22 rfl mixed h

/- ref12_Check -/
def r9_1 : List VOper := [
  { dst := some 2, op := .mov (.c (.int .i64 0)) }]
def r9_2 : List VOper := [
  { dst := some 5, op := .mov (.t 0) },
  { dst := some 6, op := .lenSl (.t 5) },
  { dst := some 7, op := .bin .gtr (.t 6) (.c (.int .i64 64)) }]
def r9_3 : List VOper := [
  { dst := some 2, op := .mov (.c (.int .i64 22)) }]
def v9_4 : VCode := (.seq (.region false r9_3) (.keep [2] (.weak .ret)))
def v9_5 : VCode := (.keep [0] (.weak .skip))
def v9_6 : VCode := (.cond (.t 7) v9_4 v9_5)
def v9_7 : VCode := (.seq (.region false r9_2) (.keep [0, 7] (.weak v9_6)))
def r9_8 : List VOper := [
  { dst := some 3, op := .mov (.c (.int .i64 0)) }]
def r9_9 : List VOper := [
  { dst := some 8, op := .mov (.t 3) },
  { dst := some 9, op := .mov (.t 0) },
  { dst := some 10, op := .lenSl (.t 9) },
  { dst := some 11, op := .bin .lss (.t 8) (.t 10) }]
def v9_10 : VCode := (.keep [0, 3] (.weak .skip))
def v9_11 : VCode := (.keep [] (.weak (.exit 0)))
def v9_12 : VCode := (.cond (.t 11) v9_10 v9_11)
def v9_13 : VCode := (.seq (.region false r9_9) (.keep [0, 3, 11] (.weak v9_12)))
def r9_14 : List VOper := [
  { dst := some 14, op := .mov (.t 0) },
  { dst := some 15, op := .mov (.t 3) },
  { dst := some 16, op := .indexAddr (some 3) (.t 14) (.t 15) },
  { dst := some 17, op := .load (some 3) (.t 16) },
  { dst := some 4, op := .alloc (some 3) (.agg [.str [], .int .i64 0, .int .i64 0]) },
  { dst := none, op := .store (some 3) (.t 4) (.t 17) }]
def r9_15 : List VOper := [
  { dst := some 18, op := .fieldAddr 0 (.t 4) },
  { dst := some 19, op := .load none (.t 18) },
  { dst := some 20, op := .call 22 [(.t 19)] },
  { dst := some 21, op := .not (.t 20) }]
def r9_16 : List VOper := [
  { dst := some 2, op := .mov (.c (.int .i64 25)) }]
def v9_17 : VCode := (.seq (.region false r9_16) (.keep [2] (.weak .ret)))
def v9_18 : VCode := (.keep [0, 3, 4] (.weak .skip))
def v9_19 : VCode := (.cond (.t 21) v9_17 v9_18)
def v9_20 : VCode := (.seq (.region false r9_15) (.keep [0, 3, 4, 21] (.weak v9_19)))
def r9_21 : List VOper := [
  { dst := some 22, op := .mov (.t 3) },
  { dst := some 23, op := .bin .gtr (.t 22) (.c (.int .i64 0)), bef := [0] },
  { dst := some 24, op := .mov (.t 23), bef := [0, 1] },
  { dst := some 25, op := .mov (.t 0), guard := some (24, true), bef := [0, 1, 2] },
  { dst := some 26, op := .mov (.t 3), guard := some (24, true), bef := [0, 1, 2] },
  { dst := some 27, op := .bin .sub (.t 26) (.c (.int .i64 1)), guard := some (24, true), bef := [0, 1, 2, 4] },
  { dst := some 28, op := .indexAddr (some 3) (.t 25) (.t 27), guard := some (24, true), bef := [0, 1, 2, 3, 4, 5] },
  { dst := some 29, op := .fieldAddr 0 (.t 28), guard := some (24, true), bef := [0, 1, 2, 3, 4, 5, 6] },
  { dst := some 30, op := .load none (.t 29), guard := some (24, true), bef := [0, 1, 2, 3, 4, 5, 6, 7] },
  { dst := some 31, op := .fieldAddr 0 (.t 4), guard := some (24, true), bef := [0, 1, 2] },
  { dst := some 32, op := .load none (.t 31), guard := some (24, true), bef := [0, 1, 2, 9] },
  { dst := some 33, op := .bin .geq (.t 30) (.t 32), guard := some (24, true), bef := [0, 1, 2, 3, 4, 5, 6, 7, 8, 9, 10] },
  { dst := some 34, op := .pick (.t 24) (.t 33) (.c (.bool false)), bef := [0, 1, 2, 3, 4, 5, 6, 7, 8, 9, 10, 11] }]
def r9_22 : List VOper := [
  { dst := some 2, op := .mov (.c (.int .i64 2)) }]
def v9_23 : VCode := (.seq (.region false r9_22) (.keep [2] (.weak .ret)))
def v9_24 : VCode := (.keep [0, 3, 4] (.weak .skip))
def v9_25 : VCode := (.cond (.t 34) v9_23 v9_24)
def v9_26 : VCode := (.seq (.region true r9_21) (.keep [0, 3, 4, 34] (.weak v9_25)))
def r9_27 : List VOper := [
  { dst := some 35, op := .fieldAddr 1 (.t 4) },
  { dst := some 36, op := .load none (.t 35) },
  { dst := some 37, op := .bin .lss (.t 36) (.c (.int .i64 0)) },
  { dst := some 38, op := .mov (.t 37) },
  { dst := some 39, op := .fieldAddr 1 (.t 4), guard := some (38, false) },
  { dst := some 40, op := .load none (.t 39), guard := some (38, false) },
  { dst := some 41, op := .bin .gtr (.t 40) (.c (.int .i64 9007199254740991)), guard := some (38, false) },
  { dst := some 42, op := .pick (.t 38) (.c (.bool true)) (.t 41) },
  { dst := some 43, op := .mov (.t 42) },
  { dst := some 44, op := .fieldAddr 2 (.t 4), guard := some (43, false) },
  { dst := some 45, op := .load none (.t 44), guard := some (43, false) },
  { dst := some 46, op := .bin .lss (.t 45) (.c (.int .i64 0)), guard := some (43, false) },
  { dst := some 47, op := .pick (.t 43) (.c (.bool true)) (.t 46) },
  { dst := some 48, op := .mov (.t 47) },
  { dst := some 49, op := .fieldAddr 2 (.t 4), guard := some (48, false) },
  { dst := some 50, op := .load none (.t 49), guard := some (48, false) },
  { dst := some 51, op := .bin .gtr (.t 50) (.c (.int .i64 9007199254740991)), guard := some (48, false) },
  { dst := some 52, op := .pick (.t 48) (.c (.bool true)) (.t 51) }]
def r9_28 : List VOper := [
  { dst := some 2, op := .mov (.c (.int .i64 5)) }]
def v9_29 : VCode := (.seq (.region false r9_28) (.keep [2] (.weak .ret)))
def v9_30 : VCode := (.keep [0, 3] (.weak .skip))
def v9_31 : VCode := (.cond (.t 52) v9_29 v9_30)
def v9_32 : VCode := (.seq (.region false r9_27) (.keep [0, 3, 52] (.weak v9_31)))
def v9_33 : VCode := (.seq v9_26 v9_32)
def v9_34 : VCode := (.seq v9_20 v9_33)
def v9_35 : VCode := (.seq (.region false r9_14) (.keep [0, 3, 4] (.weak v9_34)))
def v9_36 : VCode := (.block 1 v9_35)
def r9_37 : List VOper := [
  { dst := some 12, op := .mov (.t 3) },
  { dst := some 13, op := .bin .add (.t 12) (.c (.int .i64 1)) },
  { dst := some 3, op := .mov (.t 13) }]
def v9_38 : VCode := (.post [0, 3] (.region false r9_37))
def v9_39 : VCode := (.seq v9_36 v9_38)
def v9_40 : VCode := (.seq v9_13 v9_39)
def v9_41 : VCode := (.loop [0, 3] v9_40)
def v9_42 : VCode := (.keep [0, 3] (.weak v9_41))
def v9_43 : VCode := (.block 0 v9_42)
def v9_44 : VCode := (.seq (.region false r9_8) (.keep [0, 3] (.weak v9_43)))
def r9_45 : List VOper := [
  { dst := some 2, op := .mov (.c (.int .i64 0)) }]
def v9_46 : VCode := (.seq (.region false r9_45) (.keep [2] (.weak .ret)))
def v9_47 : VCode := (.seq v9_44 v9_46)
def v9_48 : VCode := (.seq v9_7 v9_47)
def v9 : VCode := (.seq (.region false r9_1) (.keep [0] (.weak v9_48)))
theorem hv9 : codeOf Try.prog Try.f9.ntmps v9 (Try.f9.body.getD .skip) = some v9 := by kernel_rfl
theorem ok9 {ds : List PV} {r : PV} {fl : Bool} (h : vwp Try.prog v9 (retQ [(2, none)] r fl) (initSt ds)) : CallOK Try.prog 9 ds r fl :=
  fn_ok Try.func9 rfl (by decide) hv9 rfl mixed h

/- law12_QuotaChecks -/
def r3_1 : List VOper := [
  { dst := some 2, op := .mov (.c (.bool false)) }]
def r3_2 : List VOper := [
  { dst := some 3, op := .mov (.t 0) },
  { dst := some 4, op := .lenSl (.t 3) },
  { dst := some 5, op := .bin .gtr (.t 4) (.c (.int .i64 100)) },
  { dst := some 6, op := .mov (.t 5) },
  { dst := some 7, op := .mov (.t 0), guard := some (6, false) },
  { dst := some 8, op := .call 8 [(.t 7)], guard := some (6, false) },
  { dst := some 9, op := .mov (.t 0), guard := some (6, false) },
  { dst := some 10, op := .call 9 [(.t 9)], guard := some (6, false) },
  { dst := some 11, op := .bin .eql (.t 8) (.t 10), guard := some (6, false) },
  { dst := some 12, op := .pick (.t 6) (.c (.bool true)) (.t 11) },
  { dst := some 13, op := .mov (.t 12) },
  { dst := some 14, op := .call 10 [], guard := some (13, true) },
  { dst := some 15, op := .pick (.t 13) (.t 14) (.c (.bool false)) },
  { dst := some 2, op := .mov (.t 15) }]
def v3_3 : VCode := (.seq (.region false r3_2) (.keep [2] (.weak .ret)))
def v3 : VCode := (.seq (.region false r3_1) (.keep [0] (.weak v3_3)))
theorem hv3 : codeOf Try.prog Try.f3.ntmps v3 (Try.f3.body.getD .skip) = some v3 := by kernel_rfl
theorem ok3 {ds : List PV} {r : PV} {fl : Bool} (h : vwp Try.prog v3 (retQ [(2, none)] r fl) (initSt ds)) : CallOK Try.prog 3 ds r fl :=
  fn_ok Try.func3 rfl (by decide) hv3 rfl mixed h

/- law12_few -/
def r11_1 : List VOper := [
  { dst := some 3, op := .box (some 2) (.t 1) },
  { dst := some 4, op := .mov (.c (.bool false)) }]
def r11_2 : List VOper := [
  { dst := some 5, op := .mov (.t 0) },
  { dst := some 6, op := .lenSl (.t 5) },
  { dst := some 7, op := .bin .leq (.t 6) (.c (.int .i64 100)) },
  { dst := some 8, op := .mov (.t 7) },
  { dst := some 9, op := .fieldAddr 1 (.t 3), guard := some (8, true) },
  { dst := some 10, op := .load none (.t 9), guard := some (8, true) },
  { dst := some 11, op := .lenSl (.t 10), guard := some (8, true) },
  { dst := some 12, op := .bin .leq (.t 11) (.c (.int .i64 200)), guard := some (8, true) },
  { dst := some 13, op := .pick (.t 8) (.t 12) (.c (.bool false)) },
  { dst := some 4, op := .mov (.t 13) }]
def v11_3 : VCode := (.seq (.region false r11_2) (.keep [4] (.weak .ret)))
def v11 : VCode := (.seq (.region false r11_1) (.keep [0, 3] (.weak v11_3)))
theorem hv11 : codeOf Try.prog Try.f11.ntmps v11 (Try.f11.body.getD .skip) = some v11 := by kernel_rfl
theorem ok11 {ds : List PV} {r : PV} {fl : Bool} (h : vwp Try.prog v11 (retQ [(4, none)] r fl) (initSt ds)) : CallOK Try.prog 11 ds r fl :=
  fn_ok Try.func11 rfl (by decide) hv11 rfl mixed h

/- ref12_Used -/
def r13_1 : List VOper := [
  { dst := some 2, op := .box (some 2) (.t 0) },
  { dst := some 4, op := .mov (.c (.int .i64 0)) },
  { dst := some 5, op := .mov (.c (.int .i64 0)) }]
def r13_2 : List VOper := [
  { dst := some 6, op := .mov (.c (.int .i64 0)) },
  { dst := some 7, op := .mov (.c (.int .i64 0)) }]
def r13_3 : List VOper := [
  { dst := some 8, op := .mov (.c (.int .i64 0)) }]
def r13_4 : List VOper := [
  { dst := some 9, op := .mov (.t 8) },
  { dst := some 10, op := .fieldAddr 1 (.t 2) },
  { dst := some 11, op := .load none (.t 10) },
  { dst := some 12, op := .lenSl (.t 11) },
  { dst := some 13, op := .bin .lss (.t 9) (.t 12) }]
def v13_5 : VCode := (.keep [1, 2, 6, 7, 8] (.weak .skip))
def v13_6 : VCode := (.keep [6, 7] (.weak (.exit 0)))
def v13_7 : VCode := (.cond (.t 13) v13_5 v13_6)
def v13_8 : VCode := (.seq (.region false r13_4) (.keep [1, 2, 6, 7, 8, 13] (.weak v13_7)))
def r13_9 : List VOper := [
  { dst := some 16, op := .fieldAddr 1 (.t 2) },
  { dst := some 17, op := .load none (.t 16) },
  { dst := some 18, op := .mov (.t 8) },
  { dst := some 19, op := .indexAddr (some 11) (.t 17) (.t 18) },
  { dst := some 20, op := .fieldAddr 5 (.t 19) },
  { dst := some 21, op := .load none (.t 20) },
  { dst := some 22, op := .mov (.t 1) },
  { dst := some 23, op := .bin .eql (.t 21) (.t 22) }]
def r13_10 : List VOper := [
  { dst := some 24, op := .mov (.t 6) },
  { dst := some 25, op := .bin .add (.t 24) (.c (.int .i64 1)) },
  { dst := some 6, op := .mov (.t 25) }]
def r13_11 : List VOper := [
  { dst := some 26, op := .mov (.t 7) },
  { dst := some 27, op := .fieldAddr 1 (.t 2) },
  { dst := some 28, op := .load none (.t 27) },
  { dst := some 29, op := .mov (.t 8) },
  { dst := some 30, op := .indexAddr (some 11) (.t 28) (.t 29) },
  { dst := some 31, op := .fieldAddr 10 (.t 30) },
  { dst := some 32, op := .load none (.t 31) },
  { dst := some 33, op := .lenStr (.t 32) },
  { dst := some 34, op := .bin .add (.t 26) (.t 33) },
  { dst := some 7, op := .mov (.t 34) }]
def v13_12 : VCode := (.post [1, 2, 6, 7, 8] (.region false r13_11))
def v13_13 : VCode := (.seq (.region false r13_10) (.keep [1, 2, 6, 7, 8] (.weak v13_12)))
def v13_14 : VCode := (.keep [1, 2, 6, 7, 8] (.weak .skip))
def v13_15 : VCode := (.cond (.t 23) v13_13 v13_14)
def v13_16 : VCode := (.seq (.region false r13_9) (.keep [1, 2, 6, 7, 8, 23] (.weak v13_15)))
def v13_17 : VCode := (.block 1 v13_16)
def r13_18 : List VOper := [
  { dst := some 14, op := .mov (.t 8) },
  { dst := some 15, op := .bin .add (.t 14) (.c (.int .i64 1)) },
  { dst := some 8, op := .mov (.t 15) }]
def v13_19 : VCode := (.post [1, 2, 6, 7, 8] (.region false r13_18))
def v13_20 : VCode := (.seq v13_17 v13_19)
def v13_21 : VCode := (.seq v13_8 v13_20)
def v13_22 : VCode := (.loop [1, 2, 6, 7, 8] v13_21)
def v13_23 : VCode := (.keep [1, 2, 6, 7, 8] (.weak v13_22))
def v13_24 : VCode := (.block 0 v13_23)
def v13_25 : VCode := (.seq (.region false r13_3) (.keep [1, 2, 6, 7, 8] (.weak v13_24)))
def r13_26 : List VOper := [
  { dst := some 35, op := .mov (.t 6) },
  { dst := some 36, op := .mov (.t 7) },
  { dst := some 4, op := .mov (.t 35) },
  { dst := some 5, op := .mov (.t 36) }]
def v13_27 : VCode := (.seq (.region false r13_26) (.keep [4, 5] (.weak .ret)))
def v13_28 : VCode := (.seq v13_25 v13_27)
def v13_29 : VCode := (.seq (.region false r13_2) (.keep [1, 2, 6, 7] (.weak v13_28)))
def v13 : VCode := (.seq (.region false r13_1) (.keep [1, 2] (.weak v13_29)))
theorem hv13 : codeOf Try.prog Try.f13.ntmps v13 (Try.f13.body.getD .skip) = some v13 := by kernel_rfl
theorem ok13 {ds : List PV} {r : PV} {fl : Bool} (h : vwp Try.prog v13 (retQ [(4, none), (5, none)] r fl) (initSt ds)) : CallOK Try.prog 13 ds r fl :=
  fn_ok Try.func13 rfl (by decide) hv13 rfl mixed h

/- ref12_Find -/
def r15_1 : List VOper := [
  { dst := some 4, op := .alloc (some 3) (.agg [.str [], .int .i64 0, .int .i64 0]) },
  { dst := some 5, op := .mov (.c (.bool false)) }]
def r15_2 : List VOper := [
  { dst := some 6, op := .mov (.c (.int .i64 0)) }]
def r15_3 : List VOper := [
  { dst := some 7, op := .mov (.t 6) },
  { dst := some 8, op := .mov (.t 0) },
  { dst := some 9, op := .lenSl (.t 8) },
  { dst := some 10, op := .bin .lss (.t 7) (.t 9) }]
def v15_4 : VCode := (.keep [0, 1, 4, 6] (.weak .skip))
def v15_5 : VCode := (.keep [4] (.weak (.exit 0)))
def v15_6 : VCode := (.cond (.t 10) v15_4 v15_5)
def v15_7 : VCode := (.seq (.region false r15_3) (.keep [0, 1, 4, 6, 10] (.weak v15_6)))
def r15_8 : List VOper := [
  { dst := some 13, op := .mov (.t 0) },
  { dst := some 14, op := .mov (.t 6) },
  { dst := some 15, op := .indexAddr (some 3) (.t 13) (.t 14) },
  { dst := some 16, op := .fieldAddr 0 (.t 15) },
  { dst := some 17, op := .load none (.t 16) },
  { dst := some 18, op := .mov (.t 1) },
  { dst := some 19, op := .bin .eql (.t 17) (.t 18) }]
def r15_9 : List VOper := [
  { dst := some 20, op := .mov (.t 0) },
  { dst := some 21, op := .mov (.t 6) },
  { dst := some 22, op := .indexAddr (some 3) (.t 20) (.t 21) },
  { dst := some 23, op := .load (some 3) (.t 22) },
  { dst := none, op := .store (some 3) (.t 4) (.t 23) },
  { dst := some 5, op := .mov (.c (.bool true)) }]
def v15_10 : VCode := (.seq (.region false r15_9) (.keep [4, 5] (.weak .ret)))
def v15_11 : VCode := (.keep [0, 1, 4, 6] (.weak .skip))
def v15_12 : VCode := (.cond (.t 19) v15_10 v15_11)
def v15_13 : VCode := (.seq (.region false r15_8) (.keep [0, 1, 4, 6, 19] (.weak v15_12)))
def v15_14 : VCode := (.block 1 v15_13)
def r15_15 : List VOper := [
  { dst := some 11, op := .mov (.t 6) },
  { dst := some 12, op := .bin .add (.t 11) (.c (.int .i64 1)) },
  { dst := some 6, op := .mov (.t 12) }]
def v15_16 : VCode := (.post [0, 1, 4, 6] (.region false r15_15))
def v15_17 : VCode := (.seq v15_14 v15_16)
def v15_18 : VCode := (.seq v15_7 v15_17)
def v15_19 : VCode := (.loop [0, 1, 4, 6] v15_18)
def v15_20 : VCode := (.keep [0, 1, 4, 6] (.weak v15_19))
def v15_21 : VCode := (.block 0 v15_20)
def v15_22 : VCode := (.seq (.region false r15_2) (.keep [0, 1, 4, 6] (.weak v15_21)))
def r15_23 : List VOper := [
  { dst := some 24, op := .build [.str [], .int .i64 0, .int .i64 0] [] },
  { dst := none, op := .store (some 3) (.t 4) (.t 24) },
  { dst := some 5, op := .mov (.c (.bool false)) }]
def v15_24 : VCode := (.seq (.region false r15_23) (.keep [4, 5] (.weak .ret)))
def v15_25 : VCode := (.seq v15_22 v15_24)
def v15 : VCode := (.seq (.region false r15_1) (.keep [0, 1, 4] (.weak v15_25)))
theorem hv15 : codeOf Try.prog Try.f15.ntmps v15 (Try.f15.body.getD .skip) = some v15 := by kernel_rfl
theorem ok15 {ds : List PV} {r : PV} {fl : Bool} (h : vwp Try.prog v15 (retQ [(4, some (some 3)), (5, none)] r fl) (initSt ds)) : CallOK Try.prog 15 ds r fl :=
  fn_ok Try.func15 rfl (by decide) hv15 rfl mixed h

/- ref12_Fits -/
def r17_1 : List VOper := [
  { dst := some 6, op := .box (some 2) (.t 1) },
  { dst := some 10, op := .mov (.c (.bool false)) }]
def r17_2 : List VOper := [
  { dst := some 16, op := .mov (.t 0) },
  { dst := some 17, op := .mov (.t 2) },
  { dst := some 18, op := .call 15 [(.t 16), (.t 17)] },
  { dst := some 15, op := .mov (.t 18) },
  { dst := some 19, op := .extract (.t 15) 0 },
  { dst := some 20, op := .extract (.t 15) 1 },
  { dst := some 11, op := .alloc (some 3) (.agg [.str [], .int .i64 0, .int .i64 0]) },
  { dst := none, op := .store (some 3) (.t 11) (.t 19) },
  { dst := some 12, op := .mov (.t 20) }]
def r17_3 : List VOper := [
  { dst := some 21, op := .mov (.t 12) },
  { dst := some 22, op := .not (.t 21) }]
def r17_4 : List VOper := [
  { dst := some 10, op := .mov (.c (.bool true)) }]
def v17_5 : VCode := (.seq (.region false r17_4) (.keep [10] (.weak .ret)))
def v17_6 : VCode := (.keep [2, 3, 4, 6, 11] (.weak .skip))
def v17_7 : VCode := (.cond (.t 22) v17_5 v17_6)
def v17_8 : VCode := (.seq (.region false r17_3) (.keep [2, 3, 4, 6, 11, 22] (.weak v17_7)))
def r17_9 : List VOper := [
  { dst := some 24, op := .load (some 2) (.t 6) },
  { dst := some 25, op := .mov (.t 2) },
  { dst := some 26, op := .call 13 [(.t 24), (.t 25)] },
  { dst := some 23, op := .mov (.t 26) },
  { dst := some 27, op := .extract (.t 23) 0 },
  { dst := some 28, op := .extract (.t 23) 1 },
  { dst := some 13, op := .mov (.t 27) },
  { dst := some 14, op := .mov (.t 28) }]
def r17_10 : List VOper := [
  { dst := some 29, op := .mov (.t 3) },
  { dst := some 30, op := .bin .leq (.t 29) (.c (.int .i64 0)) },
  { dst := some 31, op := .mov (.t 30) },
  { dst := some 32, op := .mov (.t 3), guard := some (31, false) },
  { dst := some 33, op := .fieldAddr 1 (.t 11), guard := some (31, false) },
  { dst := some 34, op := .load none (.t 33), guard := some (31, false) },
  { dst := some 35, op := .mov (.t 13), guard := some (31, false) },
  { dst := some 36, op := .bin .sub (.t 34) (.t 35), guard := some (31, false) },
  { dst := some 37, op := .bin .leq (.t 32) (.t 36), guard := some (31, false) },
  { dst := some 38, op := .pick (.t 31) (.c (.bool true)) (.t 37) },
  { dst := some 39, op := .mov (.t 38) },
  { dst := some 40, op := .mov (.t 4), guard := some (39, true) },
  { dst := some 41, op := .bin .leq (.t 40) (.c (.int .i64 0)), guard := some (39, true) },
  { dst := some 42, op := .mov (.t 41), guard := some (39, true) },
  { dst := some 43, op := .mov (.t 4), guard := some (42, false) },
  { dst := some 44, op := .fieldAddr 2 (.t 11), guard := some (42, false) },
  { dst := some 45, op := .load none (.t 44), guard := some (42, false) },
  { dst := some 46, op := .mov (.t 14), guard := some (42, false) },
  { dst := some 47, op := .bin .sub (.t 45) (.t 46), guard := some (42, false) },
  { dst := some 48, op := .bin .leq (.t 43) (.t 47), guard := some (42, false) },
  { dst := some 49, op := .pick (.t 42) (.c (.bool true)) (.t 48), guard := some (39, true) },
  { dst := some 50, op := .pick (.t 39) (.t 49) (.c (.bool false)) },
  { dst := some 10, op := .mov (.t 50) }]
def v17_11 : VCode := (.seq (.region false r17_10) (.keep [10] (.weak .ret)))
def v17_12 : VCode := (.seq (.region false r17_9) (.keep [3, 4, 11, 13, 14] (.weak v17_11)))
def v17_13 : VCode := (.seq v17_8 v17_12)
def v17_14 : VCode := (.seq (.region false r17_2) (.keep [2, 3, 4, 6, 11, 12] (.weak v17_13)))
def v17 : VCode := (.seq (.region false r17_1) (.keep [0, 2, 3, 4, 6] (.weak v17_14)))
theorem hv17 : codeOf Try.prog Try.f17.ntmps v17 (Try.f17.body.getD .skip) = some v17 := by kernel_rfl
theorem ok17 {ds : List PV} {r : PV} {fl : Bool} (h : vwp Try.prog v17 (retQ [(10, none)] r fl) (initSt ds)) : CallOK Try.prog 17 ds r fl :=
  fn_ok Try.func17 rfl (by decide) hv17 rfl mixed h

/- ref12_Over -/
def r20_1 : List VOper := [
  { dst := some 3, op := .box (some 2) (.t 1) },
  { dst := some 4, op := .mov (.c (.nilsl)) }]
def r20_2 : List VOper := [
  { dst := some 5, op := .mov (.c (.nilsl)) }]
def r20_3 : List VOper := [
  { dst := some 6, op := .mov (.c (.int .i64 0)) }]
def r20_4 : List VOper := [
  { dst := some 9, op := .mov (.t 6) },
  { dst := some 10, op := .mov (.t 0) },
  { dst := some 11, op := .lenSl (.t 10) },
  { dst := some 12, op := .bin .lss (.t 9) (.t 11) }]
def v20_5 : VCode := (.keep [0, 3, 5, 6] (.weak .skip))
def v20_6 : VCode := (.keep [5] (.weak (.exit 0)))
def v20_7 : VCode := (.cond (.t 12) v20_5 v20_6)
def v20_8 : VCode := (.seq (.region false r20_4) (.keep [0, 3, 5, 6, 12] (.weak v20_7)))
def r20_9 : List VOper := [
  { dst := some 16, op := .load (some 2) (.t 3) },
  { dst := some 17, op := .mov (.t 0) },
  { dst := some 18, op := .mov (.t 6) },
  { dst := some 19, op := .indexAddr (some 3) (.t 17) (.t 18), bef := [1, 2] },
  { dst := some 20, op := .fieldAddr 0 (.t 19), bef := [1, 2, 3] },
  { dst := some 21, op := .load none (.t 20), bef := [1, 2, 3, 4] },
  { dst := some 22, op := .call 13 [(.t 16), (.t 21)], bef := [0, 1, 2, 3, 4, 5] },
  { dst := some 15, op := .mov (.t 22), bef := [0, 1, 2, 3, 4, 5, 6] },
  { dst := some 23, op := .extract (.t 15) 0, bef := [0, 1, 2, 3, 4, 5, 6, 7] },
  { dst := some 24, op := .extract (.t 15) 1, bef := [0, 1, 2, 3, 4, 5, 6, 7] },
  { dst := some 7, op := .mov (.t 23), bef := [0, 1, 2, 3, 4, 5, 6, 7, 8] },
  { dst := some 8, op := .mov (.t 24), bef := [0, 1, 2, 3, 4, 5, 6, 7, 8, 9, 10] }]
def r20_10 : List VOper := [
  { dst := some 25, op := .mov (.t 7) },
  { dst := some 26, op := .mov (.t 0) },
  { dst := some 27, op := .mov (.t 6) },
  { dst := some 28, op := .indexAddr (some 3) (.t 26) (.t 27) },
  { dst := some 29, op := .fieldAddr 1 (.t 28) },
  { dst := some 30, op := .load none (.t 29) },
  { dst := some 31, op := .bin .gtr (.t 25) (.t 30) },
  { dst := some 32, op := .mov (.t 31) },
  { dst := some 33, op := .mov (.t 8), guard := some (32, false) },
  { dst := some 34, op := .mov (.t 0), guard := some (32, false) },
  { dst := some 35, op := .mov (.t 6), guard := some (32, false) },
  { dst := some 36, op := .indexAddr (some 3) (.t 34) (.t 35), guard := some (32, false) },
  { dst := some 37, op := .fieldAddr 2 (.t 36), guard := some (32, false) },
  { dst := some 38, op := .load none (.t 37), guard := some (32, false) },
  { dst := some 39, op := .bin .gtr (.t 33) (.t 38), guard := some (32, false) },
  { dst := some 40, op := .pick (.t 32) (.c (.bool true)) (.t 39) }]
def r20_11 : List VOper := [
  { dst := some 41, op := .mov (.t 5) },
  { dst := some 42, op := .mov (.t 0) },
  { dst := some 43, op := .mov (.t 6) },
  { dst := some 44, op := .indexAddr (some 3) (.t 42) (.t 43) },
  { dst := some 45, op := .fieldAddr 0 (.t 44) },
  { dst := some 46, op := .load none (.t 45) },
  { dst := some 47, op := .buildSlice none (.str []) 1 [(0, (.t 46))] },
  { dst := some 48, op := .append none 16 (.t 41) (.t 47) },
  { dst := some 5, op := .mov (.t 48) }]
def v20_12 : VCode := (.post [0, 3, 5, 6] (.region false r20_11))
def v20_13 : VCode := (.keep [0, 3, 5, 6] (.weak .skip))
def v20_14 : VCode := (.cond (.t 40) v20_12 v20_13)
def v20_15 : VCode := (.seq (.region false r20_10) (.keep [0, 3, 5, 6, 40] (.weak v20_14)))
def v20_16 : VCode := (.seq (.region true r20_9) (.keep [0, 3, 5, 6, 7, 8] (.weak v20_15)))
def v20_17 : VCode := (.block 1 v20_16)
def r20_18 : List VOper := [
  { dst := some 13, op := .mov (.t 6) },
  { dst := some 14, op := .bin .add (.t 13) (.c (.int .i64 1)) },
  { dst := some 6, op := .mov (.t 14) }]
def v20_19 : VCode := (.post [0, 3, 5, 6] (.region false r20_18))
def v20_20 : VCode := (.seq v20_17 v20_19)
def v20_21 : VCode := (.seq v20_8 v20_20)
def v20_22 : VCode := (.loop [0, 3, 5, 6] v20_21)
def v20_23 : VCode := (.keep [0, 3, 5, 6] (.weak v20_22))
def v20_24 : VCode := (.block 0 v20_23)
def v20_25 : VCode := (.seq (.region false r20_3) (.keep [0, 3, 5, 6] (.weak v20_24)))
def r20_26 : List VOper := [
  { dst := some 49, op := .mov (.t 5) },
  { dst := some 4, op := .mov (.t 49) }]
def v20_27 : VCode := (.seq (.region false r20_26) (.keep [4] (.weak .ret)))
def v20_28 : VCode := (.seq v20_25 v20_27)
def v20_29 : VCode := (.seq (.region false r20_2) (.keep [0, 3, 5] (.weak v20_28)))
def v20 : VCode := (.seq (.region false r20_1) (.keep [0, 3] (.weak v20_29)))
theorem hv20 : codeOf Try.prog Try.f20.ntmps v20 (Try.f20.body.getD .skip) = some v20 := by kernel_rfl
theorem ok20 {ds : List PV} {r : PV} {fl : Bool} (h : vwp Try.prog v20 (retQ [(4, none)] r fl) (initSt ds)) : CallOK Try.prog 20 ds r fl :=
  fn_ok Try.func20 rfl (by decide) hv20 rfl mixed h

/- law12_QuotaUses -/
def r4_1 : List VOper := [
  { dst := some 4, op := .box (some 2) (.t 1) },
  { dst := some 5, op := .box (some 3) (.t 2) },
  { dst := some 6, op := .mov (.c (.bool false)) }]
def r4_2 : List VOper := [
  { dst := some 15, op := .mov (.t 0) },
  { dst := some 16, op := .load (some 2) (.t 4) },
  { dst := some 17, op := .call 11 [(.t 15), (.t 16)] },
  { dst := some 18, op := .not (.t 17) }]
def r4_3 : List VOper := [
  { dst := some 19, op := .call 10 [] },
  { dst := some 6, op := .mov (.t 19) }]
def v4_4 : VCode := (.seq (.region false r4_3) (.keep [6] (.weak .ret)))
def v4_5 : VCode := (.keep [0, 4, 5] (.weak .skip))
def v4_6 : VCode := (.cond (.t 18) v4_4 v4_5)
def v4_7 : VCode := (.seq (.region false r4_2) (.keep [0, 4, 5, 18] (.weak v4_6)))
def r4_8 : List VOper := [
  { dst := some 21, op := .load (some 2) (.t 4) },
  { dst := some 22, op := .fieldAddr 0 (.t 5) },
  { dst := some 23, op := .load none (.t 22) },
  { dst := some 24, op := .call 12 [(.t 21), (.t 23)] },
  { dst := some 20, op := .mov (.t 24) },
  { dst := some 25, op := .extract (.t 20) 0 },
  { dst := some 26, op := .extract (.t 20) 1 },
  { dst := some 7, op := .mov (.t 25) },
  { dst := some 8, op := .mov (.t 26) }]
def r4_9 : List VOper := [
  { dst := some 28, op := .load (some 2) (.t 4) },
  { dst := some 29, op := .fieldAddr 0 (.t 5) },
  { dst := some 30, op := .load none (.t 29) },
  { dst := some 31, op := .call 13 [(.t 28), (.t 30)] },
  { dst := some 27, op := .mov (.t 31) },
  { dst := some 32, op := .extract (.t 27) 0 },
  { dst := some 33, op := .extract (.t 27) 1 },
  { dst := some 9, op := .mov (.t 32) },
  { dst := some 10, op := .mov (.t 33) }]
def r4_10 : List VOper := [
  { dst := some 34, op := .mov (.t 7) },
  { dst := some 35, op := .mov (.t 9) },
  { dst := some 36, op := .bin .neq (.t 34) (.t 35) },
  { dst := some 37, op := .mov (.t 36) },
  { dst := some 38, op := .mov (.t 8), guard := some (37, false) },
  { dst := some 39, op := .mov (.t 10), guard := some (37, false) },
  { dst := some 40, op := .bin .neq (.t 38) (.t 39), guard := some (37, false) },
  { dst := some 41, op := .pick (.t 37) (.c (.bool true)) (.t 40) }]
def r4_11 : List VOper := [
  { dst := some 6, op := .mov (.c (.bool false)) }]
def v4_12 : VCode := (.seq (.region false r4_11) (.keep [6] (.weak .ret)))
def v4_13 : VCode := (.keep [0, 4, 5] (.weak .skip))
def v4_14 : VCode := (.cond (.t 41) v4_12 v4_13)
def v4_15 : VCode := (.seq (.region false r4_10) (.keep [0, 4, 5, 41] (.weak v4_14)))
def r4_16 : List VOper := [
  { dst := some 42, op := .mov (.t 0) },
  { dst := some 43, op := .call 9 [(.t 42)] },
  { dst := some 44, op := .bin .neq (.t 43) (.c (.int .i64 0)) }]
def r4_17 : List VOper := [
  { dst := some 45, op := .call 10 [] },
  { dst := some 6, op := .mov (.t 45) }]
def v4_18 : VCode := (.seq (.region false r4_17) (.keep [6] (.weak .ret)))
def v4_19 : VCode := (.keep [0, 4, 5] (.weak .skip))
def v4_20 : VCode := (.cond (.t 44) v4_18 v4_19)
def v4_21 : VCode := (.seq (.region false r4_16) (.keep [0, 4, 5, 44] (.weak v4_20)))
def r4_22 : List VOper := [
  { dst := some 47, op := .mov (.t 0) },
  { dst := some 48, op := .fieldAddr 0 (.t 5) },
  { dst := some 49, op := .load none (.t 48) },
  { dst := some 50, op := .call 14 [(.t 47), (.t 49)] },
  { dst := some 46, op := .mov (.t 50) },
  { dst := some 51, op := .extract (.t 46) 0 },
  { dst := some 52, op := .extract (.t 46) 1 },
  { dst := some 11, op := .alloc (some 3) (.agg [.str [], .int .i64 0, .int .i64 0]) },
  { dst := none, op := .store (some 3) (.t 11) (.t 51) },
  { dst := some 12, op := .mov (.t 52) }]
def r4_23 : List VOper := [
  { dst := some 54, op := .mov (.t 0) },
  { dst := some 55, op := .fieldAddr 0 (.t 5) },
  { dst := some 56, op := .load none (.t 55) },
  { dst := some 57, op := .call 15 [(.t 54), (.t 56)] },
  { dst := some 53, op := .mov (.t 57) },
  { dst := some 58, op := .extract (.t 53) 0 },
  { dst := some 59, op := .extract (.t 53) 1 },
  { dst := some 13, op := .alloc (some 3) (.agg [.str [], .int .i64 0, .int .i64 0]) },
  { dst := none, op := .store (some 3) (.t 13) (.t 58) },
  { dst := some 14, op := .mov (.t 59) }]
def r4_24 : List VOper := [
  { dst := some 60, op := .load (some 3) (.t 11) },
  { dst := some 61, op := .load (some 3) (.t 13) },
  { dst := some 62, op := .aeq false [2, 1, 1] (.t 60) (.t 61), bef := [0, 1] },
  { dst := some 63, op := .mov (.t 62), bef := [0, 1, 2] },
  { dst := some 64, op := .mov (.t 12), guard := some (63, true), bef := [0, 1, 2, 3] },
  { dst := some 65, op := .mov (.t 14), guard := some (63, true), bef := [0, 1, 2, 3] },
  { dst := some 66, op := .beq false (.t 64) (.t 65), guard := some (63, true), bef := [0, 1, 2, 3, 4, 5] },
  { dst := some 67, op := .pick (.t 63) (.t 66) (.c (.bool false)), bef := [0, 1, 2, 3, 4, 5, 6] },
  { dst := some 68, op := .mov (.t 67), bef := [0, 1, 2, 3, 4, 5, 6, 7] },
  { dst := some 69, op := .mov (.t 0), guard := some (68, true), bef := [0, 1, 2, 3, 4, 5, 6, 7, 8] },
  { dst := some 70, op := .load (some 2) (.t 4), guard := some (68, true), bef := [0, 1, 2, 3, 4, 5, 6, 7, 8] },
  { dst := some 71, op := .fieldAddr 0 (.t 5), guard := some (68, true), bef := [0, 1, 2, 3, 4, 5, 6, 7, 8] },
  { dst := some 72, op := .load none (.t 71), guard := some (68, true), bef := [0, 1, 2, 3, 4, 5, 6, 7, 8, 11] },
  { dst := some 73, op := .fieldAddr 1 (.t 5), guard := some (68, true), bef := [0, 1, 2, 3, 4, 5, 6, 7, 8] },
  { dst := some 74, op := .load none (.t 73), guard := some (68, true), bef := [0, 1, 2, 3, 4, 5, 6, 7, 8, 13] },
  { dst := some 75, op := .fieldAddr 2 (.t 5), guard := some (68, true), bef := [0, 1, 2, 3, 4, 5, 6, 7, 8] },
  { dst := some 76, op := .load none (.t 75), guard := some (68, true), bef := [0, 1, 2, 3, 4, 5, 6, 7, 8, 15] },
  { dst := some 77, op := .call 16 [(.t 69), (.t 70), (.t 72), (.t 74), (.t 76)], guard := some (68, true), bef := [0, 1, 2, 3, 4, 5, 6, 7, 8, 9, 10, 11, 12, 13, 14, 15, 16] },
  { dst := some 78, op := .mov (.t 0), guard := some (68, true), bef := [0, 1, 2, 3, 4, 5, 6, 7, 8] },
  { dst := some 79, op := .load (some 2) (.t 4), guard := some (68, true), bef := [0, 1, 2, 3, 4, 5, 6, 7, 8] },
  { dst := some 80, op := .fieldAddr 0 (.t 5), guard := some (68, true), bef := [0, 1, 2, 3, 4, 5, 6, 7, 8] },
  { dst := some 81, op := .load none (.t 80), guard := some (68, true), bef := [0, 1, 2, 3, 4, 5, 6, 7, 8, 20] },
  { dst := some 82, op := .fieldAddr 1 (.t 5), guard := some (68, true), bef := [0, 1, 2, 3, 4, 5, 6, 7, 8] },
  { dst := some 83, op := .load none (.t 82), guard := some (68, true), bef := [0, 1, 2, 3, 4, 5, 6, 7, 8, 22] },
  { dst := some 84, op := .fieldAddr 2 (.t 5), guard := some (68, true), bef := [0, 1, 2, 3, 4, 5, 6, 7, 8] },
  { dst := some 85, op := .load none (.t 84), guard := some (68, true), bef := [0, 1, 2, 3, 4, 5, 6, 7, 8, 24] },
  { dst := some 86, op := .call 17 [(.t 78), (.t 79), (.t 81), (.t 83), (.t 85)], guard := some (68, true), bef := [0, 1, 2, 3, 4, 5, 6, 7, 8, 9, 10, 11, 12, 13, 14, 15, 16, 17, 18, 19, 20, 21, 22, 23, 24, 25] },
  { dst := some 87, op := .beq false (.t 77) (.t 86), guard := some (68, true), bef := [0, 1, 2, 3, 4, 5, 6, 7, 8, 9, 10, 11, 12, 13, 14, 15, 16, 17, 18, 19, 20, 21, 22, 23, 24, 25, 26] },
  { dst := some 88, op := .pick (.t 68) (.t 87) (.c (.bool false)), bef := [0, 1, 2, 3, 4, 5, 6, 7, 8, 9, 10, 11, 12, 13, 14, 15, 16, 17, 18, 19, 20, 21, 22, 23, 24, 25, 26, 27] },
  { dst := some 89, op := .mov (.t 88), bef := [0, 1, 2, 3, 4, 5, 6, 7, 8, 9, 10, 11, 12, 13, 14, 15, 16, 17, 18, 19, 20, 21, 22, 23, 24, 25, 26, 27, 28] },
  { dst := some 90, op := .mov (.t 0), guard := some (89, true), bef := [0, 1, 2, 3, 4, 5, 6, 7, 8, 9, 10, 11, 12, 13, 14, 15, 16, 17, 18, 19, 20, 21, 22, 23, 24, 25, 26, 27, 28, 29] },
  { dst := some 91, op := .load (some 2) (.t 4), guard := some (89, true), bef := [0, 1, 2, 3, 4, 5, 6, 7, 8, 9, 10, 11, 12, 13, 14, 15, 16, 17, 18, 19, 20, 21, 22, 23, 24, 25, 26, 27, 28, 29] },
  { dst := some 92, op := .call 19 [(.t 90), (.t 91)], guard := some (89, true), bef := [0, 1, 2, 3, 4, 5, 6, 7, 8, 9, 10, 11, 12, 13, 14, 15, 16, 17, 18, 19, 20, 21, 22, 23, 24, 25, 26, 27, 28, 29, 30, 31] },
  { dst := some 93, op := .mov (.t 0), guard := some (89, true), bef := [0, 1, 2, 3, 4, 5, 6, 7, 8, 9, 10, 11, 12, 13, 14, 15, 16, 17, 18, 19, 20, 21, 22, 23, 24, 25, 26, 27, 28, 29] },
  { dst := some 94, op := .load (some 2) (.t 4), guard := some (89, true), bef := [0, 1, 2, 3, 4, 5, 6, 7, 8, 9, 10, 11, 12, 13, 14, 15, 16, 17, 18, 19, 20, 21, 22, 23, 24, 25, 26, 27, 28, 29] },
  { dst := some 95, op := .call 20 [(.t 93), (.t 94)], guard := some (89, true), bef := [0, 1, 2, 3, 4, 5, 6, 7, 8, 9, 10, 11, 12, 13, 14, 15, 16, 17, 18, 19, 20, 21, 22, 23, 24, 25, 26, 27, 28, 29, 30, 31, 32, 33, 34] },
  { dst := some 96, op := .call 18 [(.t 92), (.t 95)], guard := some (89, true), bef := [0, 1, 2, 3, 4, 5, 6, 7, 8, 9, 10, 11, 12, 13, 14, 15, 16, 17, 18, 19, 20, 21, 22, 23, 24, 25, 26, 27, 28, 29, 30, 31, 32, 33, 34, 35] },
  { dst := some 97, op := .pick (.t 89) (.t 96) (.c (.bool false)), bef := [0, 1, 2, 3, 4, 5, 6, 7, 8, 9, 10, 11, 12, 13, 14, 15, 16, 17, 18, 19, 20, 21, 22, 23, 24, 25, 26, 27, 28, 29, 30, 31, 32, 33, 34, 35, 36] },
  { dst := some 98, op := .mov (.t 97), bef := [0, 1, 2, 3, 4, 5, 6, 7, 8, 9, 10, 11, 12, 13, 14, 15, 16, 17, 18, 19, 20, 21, 22, 23, 24, 25, 26, 27, 28, 29, 30, 31, 32, 33, 34, 35, 36, 37] },
  { dst := some 99, op := .call 10 [], guard := some (98, true), bef := [0, 1, 2, 3, 4, 5, 6, 7, 8, 9, 10, 11, 12, 13, 14, 15, 16, 17, 18, 19, 20, 21, 22, 23, 24, 25, 26, 27, 28, 29, 30, 31, 32, 33, 34, 35, 36, 37, 38] },
  { dst := some 100, op := .pick (.t 98) (.t 99) (.c (.bool false)), bef := [0, 1, 2, 3, 4, 5, 6, 7, 8, 9, 10, 11, 12, 13, 14, 15, 16, 17, 18, 19, 20, 21, 22, 23, 24, 25, 26, 27, 28, 29, 30, 31, 32, 33, 34, 35, 36, 37, 38, 39] },
  { dst := some 6, op := .mov (.t 100), bef := [0, 1, 2, 3, 4, 5, 6, 7, 8, 9, 10, 11, 12, 13, 14, 15, 16, 17, 18, 19, 20, 21, 22, 23, 24, 25, 26, 27, 28, 29, 30, 31, 32, 33, 34, 35, 36, 37, 38, 39, 40] }]
def v4_25 : VCode := (.seq (.region true r4_24) (.keep [6] (.weak .ret)))
def v4_26 : VCode := (.seq (.region false r4_23) (.keep [0, 4, 5, 11, 12, 13, 14] (.weak v4_25)))
def v4_27 : VCode := (.seq (.region false r4_22) (.keep [0, 4, 5, 11, 12] (.weak v4_26)))
def v4_28 : VCode := (.seq v4_21 v4_27)
def v4_29 : VCode := (.seq v4_15 v4_28)
def v4_30 : VCode := (.seq (.region false r4_9) (.keep [0, 4, 5, 7, 8, 9, 10] (.weak v4_29)))
def v4_31 : VCode := (.seq (.region false r4_8) (.keep [0, 4, 5, 7, 8] (.weak v4_30)))
def v4_32 : VCode := (.seq v4_7 v4_31)
def v4 : VCode := (.seq (.region false r4_1) (.keep [0, 4, 5] (.weak v4_32)))
theorem hv4 : codeOf Try.prog Try.f4.ntmps v4 (Try.f4.body.getD .skip) = some v4 := by kernel_rfl
theorem ok4 {ds : List PV} {r : PV} {fl : Bool} (h : vwp Try.prog v4 (retQ [(6, none)] r fl) (initSt ds)) : CallOK Try.prog 4 ds r fl :=
  fn_ok Try.func4 rfl (by decide) hv4 rfl mixed h

/- law12_QuotaLess -/
def r5_1 : List VOper := [
  { dst := some 4, op := .box (some 2) (.t 1) },
  { dst := some 5, op := .box (some 6) (.t 2) },
  { dst := some 6, op := .mov (.c (.bool false)) }]
def r5_2 : List VOper := [
  { dst := some 9, op := .mov (.t 0) },
  { dst := some 10, op := .load (some 2) (.t 4) },
  { dst := some 11, op := .call 11 [(.t 9), (.t 10)] },
  { dst := some 12, op := .not (.t 11) },
  { dst := some 13, op := .mov (.t 12) },
  { dst := some 14, op := .mov (.t 0), guard := some (13, false) },
  { dst := some 15, op := .call 9 [(.t 14)], guard := some (13, false) },
  { dst := some 16, op := .bin .neq (.t 15) (.c (.int .i64 0)), guard := some (13, false) },
  { dst := some 17, op := .pick (.t 13) (.c (.bool true)) (.t 16) }]
def r5_3 : List VOper := [
  { dst := some 18, op := .call 10 [] },
  { dst := some 6, op := .mov (.t 18) }]
def v5_4 : VCode := (.seq (.region false r5_3) (.keep [6] (.weak .ret)))
def v5_5 : VCode := (.keep [0, 4, 5] (.weak .skip))
def v5_6 : VCode := (.cond (.t 17) v5_4 v5_5)
def v5_7 : VCode := (.seq (.region false r5_2) (.keep [0, 4, 5, 17] (.weak v5_6)))
def r5_8 : List VOper := [
  { dst := some 19, op := .indexArr 3 2 (.t 5) (.c (.int .i64 0)) },
  { dst := some 20, op := .load (some 3) (.t 19), bef := [0] },
  { dst := some 21, op := .indexArr 3 2 (.t 5) (.c (.int .i64 1)) },
  { dst := some 22, op := .load (some 3) (.t 21), bef := [2] },
  { dst := some 7, op := .alloc (some 3) (.agg [.str [], .int .i64 0, .int .i64 0]) },
  { dst := some 8, op := .alloc (some 3) (.agg [.str [], .int .i64 0, .int .i64 0]) },
  { dst := none, op := .store (some 3) (.t 7) (.t 20), bef := [0, 1, 4, 5] },
  { dst := none, op := .store (some 3) (.t 8) (.t 22), bef := [0, 1, 2, 3, 4, 5, 6] }]
def r5_9 : List VOper := [
  { dst := some 23, op := .mov (.t 0) },
  { dst := some 24, op := .load (some 2) (.t 4) },
  { dst := some 25, op := .fieldAddr 0 (.t 7) },
  { dst := some 26, op := .load none (.t 25) },
  { dst := some 27, op := .fieldAddr 1 (.t 7) },
  { dst := some 28, op := .load none (.t 27) },
  { dst := some 29, op := .minmax false [(.t 28), (.c (.int .i64 0))] },
  { dst := some 30, op := .fieldAddr 2 (.t 7) },
  { dst := some 31, op := .load none (.t 30) },
  { dst := some 32, op := .minmax false [(.t 31), (.c (.int .i64 0))] },
  { dst := some 33, op := .call 16 [(.t 23), (.t 24), (.t 26), (.t 29), (.t 32)] },
  { dst := some 34, op := .not (.t 33) }]
def r5_10 : List VOper := [
  { dst := some 6, op := .mov (.c (.bool false)) }]
def v5_11 : VCode := (.seq (.region false r5_10) (.keep [6] (.weak .ret)))
def v5_12 : VCode := (.keep [0, 4, 7, 8] (.weak .skip))
def v5_13 : VCode := (.cond (.t 34) v5_11 v5_12)
def v5_14 : VCode := (.seq (.region false r5_9) (.keep [0, 4, 7, 8, 34] (.weak v5_13)))
def r5_15 : List VOper := [
  { dst := some 35, op := .mov (.t 0) },
  { dst := some 36, op := .load (some 2) (.t 4) },
  { dst := some 37, op := .fieldAddr 0 (.t 7) },
  { dst := some 38, op := .load none (.t 37) },
  { dst := some 39, op := .fieldAddr 1 (.t 7) },
  { dst := some 40, op := .load none (.t 39) },
  { dst := some 41, op := .fieldAddr 2 (.t 7) },
  { dst := some 42, op := .load none (.t 41) },
  { dst := some 43, op := .call 16 [(.t 35), (.t 36), (.t 38), (.t 40), (.t 42)] },
  { dst := some 44, op := .not (.t 43) },
  { dst := some 45, op := .mov (.t 44) },
  { dst := some 46, op := .mov (.t 0), guard := some (45, false) },
  { dst := some 47, op := .load (some 2) (.t 4), guard := some (45, false) },
  { dst := some 48, op := .fieldAddr 0 (.t 7), guard := some (45, false) },
  { dst := some 49, op := .load none (.t 48), guard := some (45, false) },
  { dst := some 50, op := .fieldAddr 1 (.t 7), guard := some (45, false) },
  { dst := some 51, op := .load none (.t 50), guard := some (45, false) },
  { dst := some 52, op := .fieldAddr 1 (.t 8), guard := some (45, false) },
  { dst := some 53, op := .load none (.t 52), guard := some (45, false) },
  { dst := some 54, op := .minmax false [(.t 51), (.t 53)], guard := some (45, false) },
  { dst := some 55, op := .fieldAddr 2 (.t 7), guard := some (45, false) },
  { dst := some 56, op := .load none (.t 55), guard := some (45, false) },
  { dst := some 57, op := .fieldAddr 2 (.t 8), guard := some (45, false) },
  { dst := some 58, op := .load none (.t 57), guard := some (45, false) },
  { dst := some 59, op := .minmax false [(.t 56), (.t 58)], guard := some (45, false) },
  { dst := some 60, op := .call 16 [(.t 46), (.t 47), (.t 49), (.t 54), (.t 59)], guard := some (45, false) },
  { dst := some 61, op := .pick (.t 45) (.c (.bool true)) (.t 60) },
  { dst := some 62, op := .mov (.t 61) },
  { dst := some 63, op := .call 10 [], guard := some (62, true) },
  { dst := some 64, op := .pick (.t 62) (.t 63) (.c (.bool false)) },
  { dst := some 6, op := .mov (.t 64) }]
def v5_16 : VCode := (.seq (.region false r5_15) (.keep [6] (.weak .ret)))
def v5_17 : VCode := (.seq v5_14 v5_16)
def v5_18 : VCode := (.seq (.region true r5_8) (.keep [0, 4, 7, 8] (.weak v5_17)))
def v5_19 : VCode := (.seq v5_7 v5_18)
def v5 : VCode := (.seq (.region false r5_1) (.keep [0, 4, 5] (.weak v5_19)))
theorem hv5 : codeOf Try.prog Try.f5.ntmps v5 (Try.f5.body.getD .skip) = some v5 := by kernel_rfl
theorem ok5 {ds : List PV} {r : PV} {fl : Bool} (h : vwp Try.prog v5 (retQ [(6, none)] r fl) (initSt ds)) : CallOK Try.prog 5 ds r fl :=
  fn_ok Try.func5 rfl (by decide) hv5 rfl mixed h

/- law12_QuotaOver -/
def r6_1 : List VOper := [
  { dst := some 3, op := .box (some 2) (.t 1) },
  { dst := some 4, op := .mov (.c (.bool false)) }]
def r6_2 : List VOper := [
  { dst := some 10, op := .mov (.t 0) },
  { dst := some 11, op := .load (some 2) (.t 3) },
  { dst := some 12, op := .call 11 [(.t 10), (.t 11)] },
  { dst := some 13, op := .not (.t 12) },
  { dst := some 14, op := .mov (.t 13) },
  { dst := some 15, op := .mov (.t 0), guard := some (14, false) },
  { dst := some 16, op := .call 9 [(.t 15)], guard := some (14, false) },
  { dst := some 17, op := .bin .neq (.t 16) (.c (.int .i64 0)), guard := some (14, false) },
  { dst := some 18, op := .pick (.t 14) (.c (.bool true)) (.t 17) }]
def r6_3 : List VOper := [
  { dst := some 19, op := .call 10 [] },
  { dst := some 4, op := .mov (.t 19) }]
def v6_4 : VCode := (.seq (.region false r6_3) (.keep [4] (.weak .ret)))
def v6_5 : VCode := (.keep [0, 3] (.weak .skip))
def v6_6 : VCode := (.cond (.t 18) v6_4 v6_5)
def v6_7 : VCode := (.seq (.region false r6_2) (.keep [0, 3, 18] (.weak v6_6)))
def r6_8 : List VOper := [
  { dst := some 20, op := .mov (.t 0) },
  { dst := some 21, op := .load (some 2) (.t 3) },
  { dst := some 22, op := .call 19 [(.t 20), (.t 21)] },
  { dst := some 5, op := .mov (.t 22) }]
def r6_9 : List VOper := [
  { dst := some 6, op := .mov (.c (.int .i64 0)) }]
def r6_10 : List VOper := [
  { dst := some 23, op := .mov (.t 0) },
  { dst := some 24, op := .lenSl (.t 23) },
  { dst := some 25, op := .mov (.c (.int .i64 0)) }]
def r6_11 : List VOper := [
  { dst := some 26, op := .bin .lss (.t 25) (.t 24) }]
def v6_12 : VCode := (.keep [0, 3, 5, 6, 24, 25] (.weak .skip))
def v6_13 : VCode := (.keep [5, 6] (.weak (.exit 0)))
def v6_14 : VCode := (.cond (.t 26) v6_12 v6_13)
def r6_15 : List VOper := [
  { dst := some 27, op := .mov (.t 25) },
  { dst := some 7, op := .mov (.t 27) }]
def r6_16 : List VOper := [
  { dst := some 29, op := .load (some 2) (.t 3) },
  { dst := some 30, op := .mov (.t 0) },
  { dst := some 31, op := .mov (.t 7) },
  { dst := some 32, op := .indexAddr (some 3) (.t 30) (.t 31), bef := [1, 2] },
  { dst := some 33, op := .fieldAddr 0 (.t 32), bef := [1, 2, 3] },
  { dst := some 34, op := .load none (.t 33), bef := [1, 2, 3, 4] },
  { dst := some 35, op := .call 12 [(.t 29), (.t 34)], bef := [0, 1, 2, 3, 4, 5] },
  { dst := some 28, op := .mov (.t 35), bef := [0, 1, 2, 3, 4, 5, 6] },
  { dst := some 36, op := .extract (.t 28) 0, bef := [0, 1, 2, 3, 4, 5, 6, 7] },
  { dst := some 37, op := .extract (.t 28) 1, bef := [0, 1, 2, 3, 4, 5, 6, 7] },
  { dst := some 8, op := .mov (.t 36), bef := [0, 1, 2, 3, 4, 5, 6, 7, 8] },
  { dst := some 9, op := .mov (.t 37), bef := [0, 1, 2, 3, 4, 5, 6, 7, 8, 9, 10] }]
def r6_17 : List VOper := [
  { dst := some 38, op := .mov (.t 0) },
  { dst := some 39, op := .build [.int .i64 0, .usl (some 11) []] [] },
  { dst := some 40, op := .mov (.t 0) },
  { dst := some 41, op := .mov (.t 7) },
  { dst := some 42, op := .indexAddr (some 3) (.t 40) (.t 41) },
  { dst := some 43, op := .fieldAddr 0 (.t 42) },
  { dst := some 44, op := .load none (.t 43) },
  { dst := some 45, op := .mov (.t 8) },
  { dst := some 46, op := .mov (.t 9) },
  { dst := some 47, op := .call 16 [(.t 38), (.t 39), (.t 44), (.t 45), (.t 46)] },
  { dst := some 48, op := .not (.t 47) }]
def r6_18 : List VOper := [
  { dst := some 49, op := .mov (.t 6) },
  { dst := some 50, op := .mov (.t 5) },
  { dst := some 51, op := .lenSl (.t 50), bef := [1] },
  { dst := some 52, op := .bin .geq (.t 49) (.t 51), bef := [0, 1, 2] },
  { dst := some 53, op := .mov (.t 52), bef := [0, 1, 2, 3] },
  { dst := some 54, op := .mov (.t 5), guard := some (53, false), bef := [0, 1, 2, 3, 4] },
  { dst := some 55, op := .mov (.t 6), guard := some (53, false), bef := [0, 1, 2, 3, 4] },
  { dst := some 56, op := .indexAddr none (.t 54) (.t 55), guard := some (53, false), bef := [0, 1, 2, 3, 4, 5, 6] },
  { dst := some 57, op := .load none (.t 56), guard := some (53, false), bef := [0, 1, 2, 3, 4, 5, 6, 7] },
  { dst := some 58, op := .mov (.t 0), guard := some (53, false), bef := [0, 1, 2, 3, 4] },
  { dst := some 59, op := .mov (.t 7), guard := some (53, false), bef := [0, 1, 2, 3, 4] },
  { dst := some 60, op := .indexAddr (some 3) (.t 58) (.t 59), guard := some (53, false), bef := [0, 1, 2, 3, 4, 9, 10] },
  { dst := some 61, op := .fieldAddr 0 (.t 60), guard := some (53, false), bef := [0, 1, 2, 3, 4, 9, 10, 11] },
  { dst := some 62, op := .load none (.t 61), guard := some (53, false), bef := [0, 1, 2, 3, 4, 9, 10, 11, 12] },
  { dst := some 63, op := .bin .neq (.t 57) (.t 62), guard := some (53, false), bef := [0, 1, 2, 3, 4, 5, 6, 7, 8, 9, 10, 11, 12, 13] },
  { dst := some 64, op := .pick (.t 53) (.c (.bool true)) (.t 63), bef := [0, 1, 2, 3, 4, 5, 6, 7, 8, 9, 10, 11, 12, 13, 14] }]
def r6_19 : List VOper := [
  { dst := some 4, op := .mov (.c (.bool false)) }]
def v6_20 : VCode := (.seq (.region false r6_19) (.keep [4] (.weak .ret)))
def v6_21 : VCode := (.keep [0, 3, 5, 6, 24, 25] (.weak .skip))
def v6_22 : VCode := (.cond (.t 64) v6_20 v6_21)
def v6_23 : VCode := (.seq (.region true r6_18) (.keep [0, 3, 5, 6, 24, 25, 64] (.weak v6_22)))
def r6_24 : List VOper := [
  { dst := some 65, op := .mov (.t 6) },
  { dst := some 66, op := .bin .add (.t 65) (.c (.int .i64 1)) },
  { dst := some 6, op := .mov (.t 66) }]
def v6_25 : VCode := (.post [0, 3, 5, 6, 24, 25] (.region false r6_24))
def v6_26 : VCode := (.seq v6_23 v6_25)
def v6_27 : VCode := (.keep [0, 3, 5, 6, 24, 25] (.weak .skip))
def v6_28 : VCode := (.cond (.t 48) v6_26 v6_27)
def v6_29 : VCode := (.seq (.region false r6_17) (.keep [0, 3, 5, 6, 7, 24, 25, 48] (.weak v6_28)))
def v6_30 : VCode := (.seq (.region true r6_16) (.keep [0, 3, 5, 6, 7, 8, 9, 24, 25] (.weak v6_29)))
def v6_31 : VCode := (.seq (.region false r6_15) (.keep [0, 3, 5, 6, 7, 24, 25] (.weak v6_30)))
def v6_32 : VCode := (.block 1 v6_31)
def r6_33 : List VOper := [
  { dst := some 67, op := .bin .add (.t 25) (.c (.int .i64 1)) },
  { dst := some 25, op := .mov (.t 67) }]
def v6_34 : VCode := (.post [0, 3, 5, 6, 24, 25] (.region false r6_33))
def v6_35 : VCode := (.seq v6_32 v6_34)
def v6_36 : VCode := (.seq v6_14 v6_35)
def v6_37 : VCode := (.seq (.region false r6_11) (.keep [0, 3, 5, 6, 24, 25, 26] (.weak v6_36)))
def v6_38 : VCode := (.loop [0, 3, 5, 6, 24, 25] v6_37)
def v6_39 : VCode := (.keep [0, 3, 5, 6, 24, 25] (.weak v6_38))
def v6_40 : VCode := (.block 0 v6_39)
def v6_41 : VCode := (.seq (.region false r6_10) (.keep [0, 3, 5, 6, 24, 25] (.weak v6_40)))
def r6_42 : List VOper := [
  { dst := some 68, op := .mov (.t 6) },
  { dst := some 69, op := .mov (.t 5) },
  { dst := some 70, op := .lenSl (.t 69) },
  { dst := some 71, op := .bin .eql (.t 68) (.t 70) },
  { dst := some 72, op := .mov (.t 71) },
  { dst := some 73, op := .call 10 [], guard := some (72, true) },
  { dst := some 74, op := .pick (.t 72) (.t 73) (.c (.bool false)) },
  { dst := some 4, op := .mov (.t 74) }]
def v6_43 : VCode := (.seq (.region false r6_42) (.keep [4] (.weak .ret)))
def v6_44 : VCode := (.seq v6_41 v6_43)
def v6_45 : VCode := (.seq (.region false r6_9) (.keep [0, 3, 5, 6] (.weak v6_44)))
def v6_46 : VCode := (.seq (.region false r6_8) (.keep [0, 3, 5] (.weak v6_45)))
def v6_47 : VCode := (.seq v6_7 v6_46)
def v6 : VCode := (.seq (.region false r6_1) (.keep [0, 3] (.weak v6_47)))
theorem hv6 : codeOf Try.prog Try.f6.ntmps v6 (Try.f6.body.getD .skip) = some v6 := by kernel_rfl
theorem ok6 {ds : List PV} {r : PV} {fl : Bool} (h : vwp Try.prog v6 (retQ [(4, none)] r fl) (initSt ds)) : CallOK Try.prog 6 ds r fl :=
  fn_ok Try.func6 rfl (by decide) hv6 rfl mixed h

/- law12_QuotaAdds -/
def r7_1 : List VOper := [
  { dst := some 5, op := .box (some 2) (.t 1) },
  { dst := some 8, op := .mov (.c (.bool false)) }]
def r7_2 : List VOper := [
  { dst := some 12, op := .mov (.t 0) },
  { dst := some 13, op := .load (some 2) (.t 5) },
  { dst := some 14, op := .call 11 [(.t 12), (.t 13)] },
  { dst := some 15, op := .not (.t 14) },
  { dst := some 16, op := .mov (.t 15) },
  { dst := some 17, op := .mov (.t 3), guard := some (16, false) },
  { dst := some 18, op := .lenStr (.t 17), guard := some (16, false) },
  { dst := some 19, op := .bin .gtr (.t 18) (.c (.int .i64 1000)), guard := some (16, false) },
  { dst := some 20, op := .pick (.t 16) (.c (.bool true)) (.t 19) },
  { dst := some 21, op := .mov (.t 20) },
  { dst := some 22, op := .mov (.t 0), guard := some (21, false) },
  { dst := some 23, op := .call 9 [(.t 22)], guard := some (21, false) },
  { dst := some 24, op := .bin .neq (.t 23) (.c (.int .i64 0)), guard := some (21, false) },
  { dst := some 25, op := .pick (.t 21) (.c (.bool true)) (.t 24) },
  { dst := some 26, op := .mov (.t 25) },
  { dst := some 27, op := .mov (.t 0), guard := some (26, false) },
  { dst := some 28, op := .load (some 2) (.t 5), guard := some (26, false) },
  { dst := some 29, op := .mov (.t 2), guard := some (26, false) },
  { dst := some 30, op := .mov (.t 3), guard := some (26, false) },
  { dst := some 31, op := .lenStr (.t 30), guard := some (26, false) },
  { dst := some 32, op := .call 16 [(.t 27), (.t 28), (.t 29), (.c (.int .i64 1)), (.t 31)], guard := some (26, false) },
  { dst := some 33, op := .not (.t 32), guard := some (26, false) },
  { dst := some 34, op := .pick (.t 26) (.c (.bool true)) (.t 33) }]
def r7_3 : List VOper := [
  { dst := some 35, op := .call 10 [] },
  { dst := some 8, op := .mov (.t 35) }]
def v7_4 : VCode := (.seq (.region false r7_3) (.keep [8] (.weak .ret)))
def v7_5 : VCode := (.keep [0, 2, 3, 5] (.weak .skip))
def v7_6 : VCode := (.cond (.t 34) v7_4 v7_5)
def v7_7 : VCode := (.seq (.region false r7_2) (.keep [0, 2, 3, 5, 34] (.weak v7_6)))
def r7_8 : List VOper := [
  { dst := some 36, op := .fieldAddr 0 (.t 5) },
  { dst := some 37, op := .load none (.t 36), bef := [0] },
  { dst := some 38, op := .buildSlice (some 11) (.agg [.int .i64 0, .int .i64 0, .int .i64 0, .str [], .int .i64 0, .str [], .str [], .str [], .int .i64 0, .int .i64 0, .str []]) 0 [] },
  { dst := some 39, op := .fieldAddr 1 (.t 5) },
  { dst := some 40, op := .load none (.t 39), bef := [3] },
  { dst := some 41, op := .append (some 11) 128 (.t 38) (.t 40), bef := [2, 3, 4] },
  { dst := some 42, op := .mov (.t 2) },
  { dst := some 43, op := .mov (.t 3) },
  { dst := some 44, op := .build [.int .i64 0, .int .i64 0, .int .i64 0, .str [], .int .i64 0, .str [], .str [], .str [], .int .i64 0, .int .i64 0, .str []] [(5, 1, (.t 42)), (10, 1, (.t 43))], bef := [6, 7] },
  { dst := some 45, op := .buildSlice (some 11) (.agg [.int .i64 0, .int .i64 0, .int .i64 0, .str [], .int .i64 0, .str [], .str [], .str [], .int .i64 0, .int .i64 0, .str []]) 1 [(0, (.t 44))], bef := [6, 7, 8] },
  { dst := some 46, op := .append (some 11) 128 (.t 41) (.t 45), bef := [2, 3, 4, 5, 6, 7, 8, 9] },
  { dst := some 47, op := .build [.int .i64 0, .usl (some 11) []] [(0, 1, (.t 37)), (1, 1, (.t 46))], bef := [0, 1, 2, 3, 4, 5, 6, 7, 8, 9, 10] },
  { dst := some 9, op := .alloc (some 2) (.agg [.int .i64 0, .usl (some 11) []]) },
  { dst := none, op := .store (some 2) (.t 9) (.t 47), bef := [0, 1, 2, 3, 4, 5, 6, 7, 8, 9, 10, 11, 12] }]
def r7_9 : List VOper := [
  { dst := some 48, op := .mov (.t 0) },
  { dst := some 49, op := .load (some 2) (.t 5) },
  { dst := some 50, op := .call 19 [(.t 48), (.t 49)], bef := [0, 1] },
  { dst := some 51, op := .mov (.t 0) },
  { dst := some 52, op := .load (some 2) (.t 9) },
  { dst := some 53, op := .call 19 [(.t 51), (.t 52)], bef := [0, 1, 2, 3, 4] },
  { dst := some 10, op := .mov (.t 50), bef := [0, 1, 2, 3, 4, 5] },
  { dst := some 11, op := .mov (.t 53), bef := [0, 1, 2, 3, 4, 5, 6] }]
def r7_10 : List VOper := [
  { dst := some 54, op := .mov (.t 10) },
  { dst := some 55, op := .mov (.t 11) },
  { dst := some 56, op := .call 18 [(.t 54), (.t 55)] },
  { dst := some 57, op := .mov (.t 56) },
  { dst := some 58, op := .call 10 [], guard := some (57, true) },
  { dst := some 59, op := .pick (.t 57) (.t 58) (.c (.bool false)) },
  { dst := some 8, op := .mov (.t 59) }]
def v7_11 : VCode := (.seq (.region false r7_10) (.keep [8] (.weak .ret)))
def v7_12 : VCode := (.seq (.region true r7_9) (.keep [10, 11] (.weak v7_11)))
def v7_13 : VCode := (.seq (.region true r7_8) (.keep [0, 5, 9] (.weak v7_12)))
def v7_14 : VCode := (.seq v7_7 v7_13)
def v7 : VCode := (.seq (.region false r7_1) (.keep [0, 2, 3, 5] (.weak v7_14)))
theorem hv7 : codeOf Try.prog Try.f7.ntmps v7 (Try.f7.body.getD .skip) = some v7 := by kernel_rfl
theorem ok7 {ds : List PV} {r : PV} {fl : Bool} (h : vwp Try.prog v7 (retQ [(8, none)] r fl) (initSt ds)) : CallOK Try.prog 7 ds r fl :=
  fn_ok Try.func7 rfl (by decide) hv7 rfl mixed h

end Go.Proofs.Ytpmkdmgmnljlmaa
