/- The machine's code of the functions of this translation, printed by a program of the claim's author. -/
import Derived.Test.YtjlbepebaegmeaaDoorVmX
import Derived.Test.YtjlbepebaegmeaaDoorChecked
import Derived.KernelRfl
namespace Go.Proofs.YtjlbepebaegmeaaDoor
open Go.Vm
set_option autoImplicit false
set_option linter.unusedVariables false
set_option linter.unusedSimpArgs false
set_option maxRecDepth 100000

theorem mixed : Tryd.prog.follows .mixedOrders = true := by kernel_rfl

/- law22_small -/
def r11_1 : List VOper := [
  { dst := some 2, op := .mov (.c (.bool false)) }]
def r11_2 : List VOper := [
  { dst := some 4, op := .mov (.t 0) },
  { dst := some 5, op := .lenSl (.t 4) },
  { dst := some 6, op := .bin .gtr (.t 5) (.c (.int .i64 40)) }]
def r11_3 : List VOper := [
  { dst := some 2, op := .mov (.c (.bool false)) }]
def v11_4 : VCode := (.seq (.region false r11_3) (.keep [2] (.weak .ret)))
def v11_5 : VCode := (.keep [0] (.weak .skip))
def v11_6 : VCode := (.cond (.t 6) v11_4 v11_5)
def v11_7 : VCode := (.seq (.region false r11_2) (.keep [0, 6] (.weak v11_6)))
def r11_8 : List VOper := [
  { dst := some 7, op := .mov (.t 0) },
  { dst := some 8, op := .lenSl (.t 7) },
  { dst := some 9, op := .mov (.c (.int .i64 0)) }]
def r11_9 : List VOper := [
  { dst := some 10, op := .bin .lss (.t 9) (.t 8) }]
def v11_10 : VCode := (.keep [0, 8, 9] (.weak .skip))
def v11_11 : VCode := (.keep [] (.weak (.exit 0)))
def v11_12 : VCode := (.cond (.t 10) v11_10 v11_11)
def r11_13 : List VOper := [
  { dst := some 11, op := .mov (.t 9) },
  { dst := some 3, op := .mov (.t 11) }]
def r11_14 : List VOper := [
  { dst := some 12, op := .mov (.t 0) },
  { dst := some 13, op := .mov (.t 3) },
  { dst := some 14, op := .indexAddr (some 3) (.t 12) (.t 13) },
  { dst := some 15, op := .fieldAddr 0 (.t 14) },
  { dst := some 16, op := .load none (.t 15) },
  { dst := some 17, op := .lenStr (.t 16) },
  { dst := some 18, op := .bin .gtr (.t 17) (.c (.int .i64 1100)) },
  { dst := some 19, op := .mov (.t 18) },
  { dst := some 20, op := .mov (.t 0), guard := some (19, false) },
  { dst := some 21, op := .mov (.t 3), guard := some (19, false) },
  { dst := some 22, op := .indexAddr (some 3) (.t 20) (.t 21), guard := some (19, false) },
  { dst := some 23, op := .fieldAddr 1 (.t 22), guard := some (19, false) },
  { dst := some 24, op := .load none (.t 23), guard := some (19, false) },
  { dst := some 25, op := .lenStr (.t 24), guard := some (19, false) },
  { dst := some 26, op := .bin .gtr (.t 25) (.c (.int .i64 1100)), guard := some (19, false) },
  { dst := some 27, op := .pick (.t 19) (.c (.bool true)) (.t 26) }]
def r11_15 : List VOper := [
  { dst := some 2, op := .mov (.c (.bool false)) }]
def v11_16 : VCode := (.seq (.region false r11_15) (.keep [2] (.weak .ret)))
def v11_17 : VCode := (.keep [0, 8, 9] (.weak .skip))
def v11_18 : VCode := (.cond (.t 27) v11_16 v11_17)
def v11_19 : VCode := (.seq (.region false r11_14) (.keep [0, 8, 9, 27] (.weak v11_18)))
def v11_20 : VCode := (.seq (.region false r11_13) (.keep [0, 3, 8, 9] (.weak v11_19)))
def v11_21 : VCode := (.block 1 v11_20)
def r11_22 : List VOper := [
  { dst := some 28, op := .bin .add (.t 9) (.c (.int .i64 1)) },
  { dst := some 9, op := .mov (.t 28) }]
def v11_23 : VCode := (.post [0, 8, 9] (.region false r11_22))
def v11_24 : VCode := (.seq v11_21 v11_23)
def v11_25 : VCode := (.seq v11_12 v11_24)
def v11_26 : VCode := (.seq (.region false r11_9) (.keep [0, 8, 9, 10] (.weak v11_25)))
def v11_27 : VCode := (.loop [0, 8, 9] v11_26)
def v11_28 : VCode := (.keep [0, 8, 9] (.weak v11_27))
def v11_29 : VCode := (.block 0 v11_28)
def v11_30 : VCode := (.seq (.region false r11_8) (.keep [0, 8, 9] (.weak v11_29)))
def r11_31 : List VOper := [
  { dst := some 2, op := .mov (.c (.bool true)) }]
def v11_32 : VCode := (.seq (.region false r11_31) (.keep [2] (.weak .ret)))
def v11_33 : VCode := (.seq v11_30 v11_32)
def v11_34 : VCode := (.seq v11_7 v11_33)
def v11 : VCode := (.seq (.region false r11_1) (.keep [0] (.weak v11_34)))
theorem hv11 : codeOf Tryd.prog Tryd.f11.ntmps v11 (Tryd.f11.body.getD .skip) = some v11 := by kernel_rfl
theorem ok11 {ds : List PV} {r : PV} {fl : Bool} (h : vwp Tryd.prog v11 (retQ [(2, none)] r fl) (initSt ds)) : CallOK Tryd.prog 11 ds r fl :=
  fn_ok Tryd.func11 rfl (by decide) hv11 rfl mixed h

/- attr_blank -/
def r35_1 : List VOper := [
  { dst := some 2, op := .mov (.c (.bool false)) }]
def r35_2 : List VOper := [
  { dst := some 3, op := .mov (.t 0) },
  { dst := some 4, op := .bin .eql (.t 3) (.c (.int .u8 32)) },
  { dst := some 5, op := .mov (.t 4) },
  { dst := some 6, op := .mov (.t 0), guard := some (5, false) },
  { dst := some 7, op := .bin .eql (.t 6) (.c (.int .u8 9)), guard := some (5, false) },
  { dst := some 8, op := .pick (.t 5) (.c (.bool true)) (.t 7) },
  { dst := some 2, op := .mov (.t 8) }]
def v35_3 : VCode := (.seq (.region false r35_2) (.keep [2] (.weak .ret)))
def v35 : VCode := (.seq (.region false r35_1) (.keep [0] (.weak v35_3)))
theorem hv35 : codeOf Tryd.prog Tryd.f35.ntmps v35 (Tryd.f35.body.getD .skip) = some v35 := by kernel_rfl
theorem ok35 {ds : List PV} {r : PV} {fl : Bool} (h : vwp Tryd.prog v35 (retQ [(2, none)] r fl) (initSt ds)) : CallOK Tryd.prog 35 ds r fl :=
  fn_ok Tryd.func35 rfl (by decide) hv35 rfl mixed h

/- strings_IndexByte -/
def r64_1 : List VOper := [
  { dst := some 4, op := .mov (.c (.int .i64 0)) }]
def r64_2 : List VOper := [
  { dst := some 5, op := .mov (.t 0) },
  { dst := some 6, op := .mov (.t 1) },
  { dst := some 7, op := .call 71 [(.t 5), (.t 6)] },
  { dst := some 4, op := .mov (.t 7) }]
def v64_3 : VCode := (.seq (.region false r64_2) (.keep [4] (.weak .ret)))
def v64 : VCode := (.seq (.region false r64_1) (.keep [0, 1] (.weak v64_3)))
theorem hv64 : codeOf Tryd.prog Tryd.f64.ntmps v64 (Tryd.f64.body.getD .skip) = some v64 := by kernel_rfl
theorem ok64 {ds : List PV} {r : PV} {fl : Bool} (h : vwp Tryd.prog v64 (retQ [(4, none)] r fl) (initSt ds)) : CallOK Tryd.prog 64 ds r fl :=
  fn_ok Tryd.func64 rfl (by decide) hv64 rfl mixed h

/- attr_until -/
def r47_1 : List VOper := [
  { dst := some 4, op := .mov (.c (.int .i64 0)) }]
def r47_2 : List VOper := [
  { dst := some 6, op := .mov (.t 0) },
  { dst := some 7, op := .lenStr (.t 6) },
  { dst := some 8, op := .mov (.c (.int .i64 0)) }]
def r47_3 : List VOper := [
  { dst := some 9, op := .bin .lss (.t 8) (.t 7) }]
def v47_4 : VCode := (.keep [0, 1, 7, 8] (.weak .skip))
def v47_5 : VCode := (.keep [0] (.weak (.exit 0)))
def v47_6 : VCode := (.cond (.t 9) v47_4 v47_5)
def r47_7 : List VOper := [
  { dst := some 10, op := .mov (.t 8) },
  { dst := some 5, op := .mov (.t 10) }]
def r47_8 : List VOper := [
  { dst := some 11, op := .mov (.t 1) },
  { dst := some 12, op := .mov (.t 0) },
  { dst := some 13, op := .mov (.t 5) },
  { dst := some 14, op := .indexStr (.t 12) (.t 13) },
  { dst := some 15, op := .call 64 [(.t 11), (.t 14)] },
  { dst := some 16, op := .bin .geq (.t 15) (.c (.int .i64 0)) }]
def r47_9 : List VOper := [
  { dst := some 17, op := .mov (.t 5) },
  { dst := some 4, op := .mov (.t 17) }]
def v47_10 : VCode := (.seq (.region false r47_9) (.keep [4] (.weak .ret)))
def v47_11 : VCode := (.keep [0, 1, 7, 8] (.weak .skip))
def v47_12 : VCode := (.cond (.t 16) v47_10 v47_11)
def v47_13 : VCode := (.seq (.region false r47_8) (.keep [0, 1, 5, 7, 8, 16] (.weak v47_12)))
def v47_14 : VCode := (.seq (.region false r47_7) (.keep [0, 1, 5, 7, 8] (.weak v47_13)))
def v47_15 : VCode := (.block 1 v47_14)
def r47_16 : List VOper := [
  { dst := some 18, op := .bin .add (.t 8) (.c (.int .i64 1)) },
  { dst := some 8, op := .mov (.t 18) }]
def v47_17 : VCode := (.post [0, 1, 7, 8] (.region false r47_16))
def v47_18 : VCode := (.seq v47_15 v47_17)
def v47_19 : VCode := (.seq v47_6 v47_18)
def v47_20 : VCode := (.seq (.region false r47_3) (.keep [0, 1, 7, 8, 9] (.weak v47_19)))
def v47_21 : VCode := (.loop [0, 1, 7, 8] v47_20)
def v47_22 : VCode := (.keep [0, 1, 7, 8] (.weak v47_21))
def v47_23 : VCode := (.block 0 v47_22)
def v47_24 : VCode := (.seq (.region false r47_2) (.keep [0, 1, 7, 8] (.weak v47_23)))
def r47_25 : List VOper := [
  { dst := some 19, op := .mov (.t 0) },
  { dst := some 20, op := .lenStr (.t 19) },
  { dst := some 4, op := .mov (.t 20) }]
def v47_26 : VCode := (.seq (.region false r47_25) (.keep [4] (.weak .ret)))
def v47_27 : VCode := (.seq v47_24 v47_26)
def v47 : VCode := (.seq (.region false r47_1) (.keep [0, 1] (.weak v47_27)))
theorem hv47 : codeOf Tryd.prog Tryd.f47.ntmps v47 (Tryd.f47.body.getD .skip) = some v47 := by kernel_rfl
theorem ok47 {ds : List PV} {r : PV} {fl : Bool} (h : vwp Tryd.prog v47 (retQ [(4, none)] r fl) (initSt ds)) : CallOK Tryd.prog 47 ds r fl :=
  fn_ok Tryd.func47 rfl (by decide) hv47 rfl mixed h

/- stringslite_HasPrefix -/
def r61_1 : List VOper := [
  { dst := some 4, op := .mov (.c (.bool false)) }]
def r61_2 : List VOper := [
  { dst := some 5, op := .mov (.t 0) },
  { dst := some 6, op := .lenStr (.t 5) },
  { dst := some 7, op := .mov (.t 1) },
  { dst := some 8, op := .lenStr (.t 7) },
  { dst := some 9, op := .bin .geq (.t 6) (.t 8) },
  { dst := some 10, op := .mov (.t 9) },
  { dst := some 11, op := .mov (.t 0), guard := some (10, true) },
  { dst := some 12, op := .mov (.t 1), guard := some (10, true) },
  { dst := some 13, op := .lenStr (.t 12), guard := some (10, true) },
  { dst := some 14, op := .slStr (.t 11) none (some (.t 13)), guard := some (10, true) },
  { dst := some 15, op := .mov (.t 1), guard := some (10, true) },
  { dst := some 16, op := .bin .eql (.t 14) (.t 15), guard := some (10, true) },
  { dst := some 17, op := .pick (.t 10) (.t 16) (.c (.bool false)) },
  { dst := some 4, op := .mov (.t 17) }]
def v61_3 : VCode := (.seq (.region false r61_2) (.keep [4] (.weak .ret)))
def v61 : VCode := (.seq (.region false r61_1) (.keep [0, 1] (.weak v61_3)))
theorem hv61 : codeOf Tryd.prog Tryd.f61.ntmps v61 (Tryd.f61.body.getD .skip) = some v61 := by kernel_rfl
theorem ok61 {ds : List PV} {r : PV} {fl : Bool} (h : vwp Tryd.prog v61 (retQ [(4, none)] r fl) (initSt ds)) : CallOK Tryd.prog 61 ds r fl :=
  fn_ok Tryd.func61 rfl (by decide) hv61 rfl mixed h

/- strings_HasPrefix -/
def r42_1 : List VOper := [
  { dst := some 4, op := .mov (.c (.bool false)) }]
def r42_2 : List VOper := [
  { dst := some 5, op := .mov (.t 0) },
  { dst := some 6, op := .mov (.t 1) },
  { dst := some 7, op := .call 61 [(.t 5), (.t 6)] },
  { dst := some 4, op := .mov (.t 7) }]
def v42_3 : VCode := (.seq (.region false r42_2) (.keep [4] (.weak .ret)))
def v42 : VCode := (.seq (.region false r42_1) (.keep [0, 1] (.weak v42_3)))
theorem hv42 : codeOf Tryd.prog Tryd.f42.ntmps v42 (Tryd.f42.body.getD .skip) = some v42 := by kernel_rfl
theorem ok42 {ds : List PV} {r : PV} {fl : Bool} (h : vwp Tryd.prog v42 (retQ [(4, none)] r fl) (initSt ds)) : CallOK Tryd.prog 42 ds r fl :=
  fn_ok Tryd.func42 rfl (by decide) hv42 rfl mixed h

/- attr_quoted -/
def r56_1 : List VOper := [
  { dst := some 2, op := .mov (.c (.str [])) },
  { dst := some 3, op := .mov (.c (.int .i64 0)) },
  { dst := some 4, op := .mov (.c (.bool false)) }]
def r56_2 : List VOper := [
  { dst := some 5, op := .allocB 62 5 }]
def r56_3 : List VOper := [
  { dst := some 6, op := .mov (.c (.int .i64 0)) }]
def r56_4 : List VOper := [
  { dst := some 7, op := .mov (.t 6) },
  { dst := some 8, op := .mov (.t 0) },
  { dst := some 9, op := .lenStr (.t 8) },
  { dst := some 10, op := .bin .lss (.t 7) (.t 9) }]
def v56_5 : VCode := (.keep [0, 5, 6] (.weak .skip))
def v56_6 : VCode := (.keep [] (.weak (.exit 0)))
def v56_7 : VCode := (.cond (.t 10) v56_5 v56_6)
def v56_8 : VCode := (.seq (.region false r56_4) (.keep [0, 5, 6, 10] (.weak v56_7)))
def r56_9 : List VOper := [
  { dst := some 13, op := .mov (.t 0) },
  { dst := some 14, op := .mov (.t 6) },
  { dst := some 15, op := .indexStr (.t 13) (.t 14) },
  { dst := some 16, op := .bin .neq (.t 15) (.c (.int .u8 39)) }]
def r56_10 : List VOper := [
  { dst := some 17, op := .mov (.t 0) },
  { dst := some 18, op := .mov (.t 6) },
  { dst := some 19, op := .indexStr (.t 17) (.t 18) },
  { dst := some 20, op := .call 68 [(.t 5), (.t 19)] }]
def v56_11 : VCode := (.keep [0, 5, 6] (.weak (.exit 1)))
def v56_12 : VCode := (.seq (.region false r56_10) (.keep [0, 5, 6] (.weak v56_11)))
def v56_13 : VCode := (.keep [0, 5, 6] (.weak .skip))
def v56_14 : VCode := (.cond (.t 16) v56_12 v56_13)
def v56_15 : VCode := (.seq (.region false r56_9) (.keep [0, 5, 6, 16] (.weak v56_14)))
def r56_16 : List VOper := [
  { dst := some 21, op := .mov (.t 6) },
  { dst := some 22, op := .bin .add (.t 21) (.c (.int .i64 1)) },
  { dst := some 23, op := .mov (.t 0) },
  { dst := some 24, op := .lenStr (.t 23) },
  { dst := some 25, op := .bin .eql (.t 22) (.t 24) },
  { dst := some 26, op := .mov (.t 25) },
  { dst := some 27, op := .mov (.t 0), guard := some (26, false) },
  { dst := some 28, op := .mov (.t 6), guard := some (26, false) },
  { dst := some 29, op := .bin .add (.t 28) (.c (.int .i64 1)), guard := some (26, false) },
  { dst := some 30, op := .indexStr (.t 27) (.t 29), guard := some (26, false) },
  { dst := some 31, op := .bin .neq (.t 30) (.c (.int .u8 39)), guard := some (26, false) },
  { dst := some 32, op := .pick (.t 26) (.c (.bool true)) (.t 31) }]
def r56_17 : List VOper := [
  { dst := some 33, op := .call 55 [(.t 5)] },
  { dst := some 34, op := .mov (.t 6) },
  { dst := some 35, op := .bin .add (.t 34) (.c (.int .i64 1)) },
  { dst := some 2, op := .mov (.t 33) },
  { dst := some 3, op := .mov (.t 35) },
  { dst := some 4, op := .mov (.c (.bool true)) }]
def v56_18 : VCode := (.seq (.region false r56_17) (.keep [2, 3, 4] (.weak .ret)))
def v56_19 : VCode := (.keep [0, 5, 6] (.weak .skip))
def v56_20 : VCode := (.cond (.t 32) v56_18 v56_19)
def v56_21 : VCode := (.seq (.region false r56_16) (.keep [0, 5, 6, 32] (.weak v56_20)))
def r56_22 : List VOper := [
  { dst := some 36, op := .call 68 [(.t 5), (.c (.int .u8 39))] }]
def r56_23 : List VOper := [
  { dst := some 37, op := .mov (.t 6) },
  { dst := some 38, op := .bin .add (.t 37) (.c (.int .i64 1)) },
  { dst := some 6, op := .mov (.t 38) }]
def v56_24 : VCode := (.post [0, 5, 6] (.region false r56_23))
def v56_25 : VCode := (.seq (.region false r56_22) (.keep [0, 5, 6] (.weak v56_24)))
def v56_26 : VCode := (.seq v56_21 v56_25)
def v56_27 : VCode := (.seq v56_15 v56_26)
def v56_28 : VCode := (.block 1 v56_27)
def r56_29 : List VOper := [
  { dst := some 11, op := .mov (.t 6) },
  { dst := some 12, op := .bin .add (.t 11) (.c (.int .i64 1)) },
  { dst := some 6, op := .mov (.t 12) }]
def v56_30 : VCode := (.post [0, 5, 6] (.region false r56_29))
def v56_31 : VCode := (.seq v56_28 v56_30)
def v56_32 : VCode := (.seq v56_8 v56_31)
def v56_33 : VCode := (.loop [0, 5, 6] v56_32)
def v56_34 : VCode := (.keep [0, 5, 6] (.weak v56_33))
def v56_35 : VCode := (.block 0 v56_34)
def v56_36 : VCode := (.seq (.region false r56_3) (.keep [0, 5, 6] (.weak v56_35)))
def r56_37 : List VOper := [
  { dst := some 2, op := .mov (.c (.str [])) },
  { dst := some 3, op := .mov (.c (.int .i64 0)) },
  { dst := some 4, op := .mov (.c (.bool false)) }]
def v56_38 : VCode := (.seq (.region false r56_37) (.keep [2, 3, 4] (.weak .ret)))
def v56_39 : VCode := (.seq v56_36 v56_38)
def v56_40 : VCode := (.seq (.region false r56_2) (.keep [0, 5] (.weak v56_39)))
def v56 : VCode := (.seq (.region false r56_1) (.keep [0] (.weak v56_40)))
theorem hv56 : codeOf Tryd.prog Tryd.f56.ntmps v56 (Tryd.f56.body.getD .skip) = some v56 := by kernel_rfl
theorem ok56 {ds : List PV} {r : PV} {fl : Bool} (h : vwp Tryd.prog v56 (retQ [(2, none), (3, none), (4, none)] r fl) (initSt ds)) : CallOK Tryd.prog 56 ds r fl :=
  fn_ok Tryd.func56 rfl (by decide) hv56 rfl mixed h

/- strings_Contains -/
def r57_1 : List VOper := [
  { dst := some 4, op := .mov (.c (.bool false)) }]
def r57_2 : List VOper := [
  { dst := some 5, op := .mov (.t 0) },
  { dst := some 6, op := .mov (.t 1) },
  { dst := some 7, op := .call 69 [(.t 5), (.t 6)] },
  { dst := some 8, op := .bin .geq (.t 7) (.c (.int .i64 0)) },
  { dst := some 4, op := .mov (.t 8) }]
def v57_3 : VCode := (.seq (.region false r57_2) (.keep [4] (.weak .ret)))
def v57 : VCode := (.seq (.region false r57_1) (.keep [0, 1] (.weak v57_3)))
theorem hv57 : codeOf Tryd.prog Tryd.f57.ntmps v57 (Tryd.f57.body.getD .skip) = some v57 := by kernel_rfl
theorem ok57 {ds : List PV} {r : PV} {fl : Bool} (h : vwp Tryd.prog v57 (retQ [(4, none)] r fl) (initSt ds)) : CallOK Tryd.prog 57 ds r fl :=
  fn_ok Tryd.func57 rfl (by decide) hv57 rfl mixed h

/- attr_one -/
def r36_1 : List VOper := [
  { dst := some 2, op := .alloc (some 3) (.agg [.str [], .str [], .bool false]) },
  { dst := some 3, op := .mov (.c (.int .i64 0)) },
  { dst := some 4, op := .mov (.c (.int .i64 0)) }]
def r36_2 : List VOper := [
  { dst := some 12, op := .mov (.t 0) },
  { dst := some 13, op := .call 47 [(.t 12), (.c (.str [32, 9, 61, 63, 39]))] },
  { dst := some 5, op := .mov (.t 13) }]
def r36_3 : List VOper := [
  { dst := some 14, op := .mov (.t 0) },
  { dst := some 15, op := .mov (.t 5) },
  { dst := some 16, op := .slStr (.t 14) none (some (.t 15)) },
  { dst := some 17, op := .build [.str [], .str [], .bool false] [(0, 1, (.t 16))] },
  { dst := some 6, op := .alloc (some 3) (.agg [.str [], .str [], .bool false]) },
  { dst := none, op := .store (some 3) (.t 6) (.t 17) }]
def r36_4 : List VOper := [
  { dst := some 18, op := .mov (.t 0) },
  { dst := some 19, op := .mov (.t 5) },
  { dst := some 20, op := .slStr (.t 18) (some (.t 19)) none },
  { dst := some 7, op := .mov (.t 20) }]
def r36_5 : List VOper := [
  { dst := some 23, op := .mov (.t 7) },
  { dst := some 24, op := .call 42 [(.t 23), (.c (.str [63]))] },
  { dst := some 22, op := .mov (.t 24) }]
def r36_6 : List VOper := [
  { dst := some 25, op := .fieldAddr 2 (.t 6) },
  { dst := none, op := .store none (.t 25) (.c (.bool true)) }]
def r36_7 : List VOper := [
  { dst := some 26, op := .mov (.t 5) },
  { dst := some 27, op := .bin .add (.t 26) (.c (.int .i64 1)) },
  { dst := some 5, op := .mov (.t 27) }]
def v36_8 : VCode := (.post [0, 2, 5, 6] (.region false r36_7))
def v36_9 : VCode := (.seq (.region false r36_6) (.keep [0, 2, 5, 6] (.weak v36_8)))
def r36_10 : List VOper := [
  { dst := some 29, op := .mov (.t 7) },
  { dst := some 30, op := .call 42 [(.t 29), (.c (.str [61, 39]))] },
  { dst := some 28, op := .mov (.t 30) }]
def r36_11 : List VOper := [
  { dst := some 32, op := .mov (.t 7) },
  { dst := some 33, op := .slStr (.t 32) (some (.c (.int .i64 2))) none },
  { dst := some 34, op := .call 56 [(.t 33)] },
  { dst := some 31, op := .mov (.t 34) },
  { dst := some 35, op := .extract (.t 31) 0 },
  { dst := some 36, op := .extract (.t 31) 1 },
  { dst := some 37, op := .extract (.t 31) 2 },
  { dst := some 8, op := .mov (.t 35) },
  { dst := some 9, op := .mov (.t 36) },
  { dst := some 10, op := .mov (.t 37) }]
def r36_12 : List VOper := [
  { dst := some 38, op := .mov (.t 10) },
  { dst := some 39, op := .not (.t 38) }]
def r36_13 : List VOper := [
  { dst := some 40, op := .build [.str [], .str [], .bool false] [] },
  { dst := none, op := .store (some 3) (.t 2) (.t 40) },
  { dst := some 3, op := .mov (.c (.int .i64 0)) },
  { dst := some 4, op := .mov (.c (.int .i64 48)) }]
def v36_14 : VCode := (.seq (.region false r36_13) (.keep [2, 3, 4] (.weak .ret)))
def v36_15 : VCode := (.keep [0, 2, 5, 6, 8, 9] (.weak .skip))
def v36_16 : VCode := (.cond (.t 39) v36_14 v36_15)
def v36_17 : VCode := (.seq (.region false r36_12) (.keep [0, 2, 5, 6, 8, 9, 39] (.weak v36_16)))
def r36_18 : List VOper := [
  { dst := some 41, op := .mov (.t 8) },
  { dst := some 42, op := .fieldAddr 1 (.t 6) },
  { dst := none, op := .store none (.t 42) (.t 41) }]
def r36_19 : List VOper := [
  { dst := some 43, op := .mov (.t 5) },
  { dst := some 44, op := .mov (.t 9) },
  { dst := some 45, op := .bin .add (.c (.int .i64 2)) (.t 44) },
  { dst := some 46, op := .bin .add (.t 43) (.t 45) },
  { dst := some 5, op := .mov (.t 46) }]
def v36_20 : VCode := (.post [0, 2, 5, 6] (.region false r36_19))
def v36_21 : VCode := (.seq (.region false r36_18) (.keep [0, 2, 5, 6, 9] (.weak v36_20)))
def v36_22 : VCode := (.seq v36_17 v36_21)
def v36_23 : VCode := (.seq (.region false r36_11) (.keep [0, 2, 5, 6, 8, 9, 10] (.weak v36_22)))
def r36_24 : List VOper := [
  { dst := some 48, op := .mov (.t 7) },
  { dst := some 49, op := .call 42 [(.t 48), (.c (.str [61]))] },
  { dst := some 47, op := .mov (.t 49) }]
def r36_25 : List VOper := [
  { dst := some 50, op := .mov (.t 7) },
  { dst := some 51, op := .call 47 [(.t 50), (.c (.str [32, 9]))] },
  { dst := some 11, op := .mov (.t 51) }]
def r36_26 : List VOper := [
  { dst := some 52, op := .mov (.t 7) },
  { dst := some 53, op := .mov (.t 11) },
  { dst := some 54, op := .slStr (.t 52) (some (.c (.int .i64 1))) (some (.t 53)) },
  { dst := some 55, op := .fieldAddr 1 (.t 6) },
  { dst := none, op := .store none (.t 55) (.t 54) }]
def r36_27 : List VOper := [
  { dst := some 56, op := .fieldAddr 1 (.t 6) },
  { dst := some 57, op := .load none (.t 56) },
  { dst := some 58, op := .call 57 [(.t 57), (.c (.str [39]))] }]
def r36_28 : List VOper := [
  { dst := some 59, op := .build [.str [], .str [], .bool false] [] },
  { dst := none, op := .store (some 3) (.t 2) (.t 59) },
  { dst := some 3, op := .mov (.c (.int .i64 0)) },
  { dst := some 4, op := .mov (.c (.int .i64 2)) }]
def v36_29 : VCode := (.seq (.region false r36_28) (.keep [2, 3, 4] (.weak .ret)))
def v36_30 : VCode := (.keep [0, 2, 5, 6, 11] (.weak .skip))
def v36_31 : VCode := (.cond (.t 58) v36_29 v36_30)
def v36_32 : VCode := (.seq (.region false r36_27) (.keep [0, 2, 5, 6, 11, 58] (.weak v36_31)))
def r36_33 : List VOper := [
  { dst := some 60, op := .mov (.t 5) },
  { dst := some 61, op := .mov (.t 11) },
  { dst := some 62, op := .bin .add (.t 60) (.t 61) },
  { dst := some 5, op := .mov (.t 62) }]
def v36_34 : VCode := (.post [0, 2, 5, 6] (.region false r36_33))
def v36_35 : VCode := (.seq v36_32 v36_34)
def v36_36 : VCode := (.seq (.region false r36_26) (.keep [0, 2, 5, 6, 11] (.weak v36_35)))
def v36_37 : VCode := (.seq (.region false r36_25) (.keep [0, 2, 5, 6, 7, 11] (.weak v36_36)))
def r36_38 : List VOper := [
  { dst := some 21, op := .build [.str [], .str [], .bool false] [] },
  { dst := none, op := .store (some 3) (.t 2) (.t 21) },
  { dst := some 3, op := .mov (.c (.int .i64 0)) },
  { dst := some 4, op := .mov (.c (.int .i64 2)) }]
def v36_39 : VCode := (.seq (.region false r36_38) (.keep [2, 3, 4] (.weak .ret)))
def v36_40 : VCode := (.cond (.t 47) v36_37 v36_39)
def v36_41 : VCode := (.seq (.region false r36_24) (.keep [0, 2, 5, 6, 7, 47] (.weak v36_40)))
def v36_42 : VCode := (.cond (.t 28) v36_23 v36_41)
def v36_43 : VCode := (.seq (.region false r36_10) (.keep [0, 2, 5, 6, 7, 28] (.weak v36_42)))
def v36_44 : VCode := (.cond (.t 22) v36_9 v36_43)
def v36_45 : VCode := (.seq (.region false r36_5) (.keep [0, 2, 5, 6, 7, 22] (.weak v36_44)))
def v36_46 : VCode := (.block 0 v36_45)
def r36_47 : List VOper := [
  { dst := some 63, op := .mov (.t 5) },
  { dst := some 64, op := .mov (.t 0) },
  { dst := some 65, op := .lenStr (.t 64) },
  { dst := some 66, op := .bin .lss (.t 63) (.t 65) },
  { dst := some 67, op := .mov (.t 66) },
  { dst := some 68, op := .mov (.t 0), guard := some (67, true) },
  { dst := some 69, op := .mov (.t 5), guard := some (67, true) },
  { dst := some 70, op := .indexStr (.t 68) (.t 69), guard := some (67, true) },
  { dst := some 71, op := .call 35 [(.t 70)], guard := some (67, true) },
  { dst := some 72, op := .not (.t 71), guard := some (67, true) },
  { dst := some 73, op := .pick (.t 67) (.t 72) (.c (.bool false)) }]
def r36_48 : List VOper := [
  { dst := some 74, op := .build [.str [], .str [], .bool false] [] },
  { dst := none, op := .store (some 3) (.t 2) (.t 74) },
  { dst := some 3, op := .mov (.c (.int .i64 0)) },
  { dst := some 4, op := .mov (.c (.int .i64 2)) }]
def v36_49 : VCode := (.seq (.region false r36_48) (.keep [2, 3, 4] (.weak .ret)))
def v36_50 : VCode := (.keep [2, 5, 6] (.weak .skip))
def v36_51 : VCode := (.cond (.t 73) v36_49 v36_50)
def v36_52 : VCode := (.seq (.region false r36_47) (.keep [2, 5, 6, 73] (.weak v36_51)))
def r36_53 : List VOper := [
  { dst := some 75, op := .load (some 3) (.t 6) },
  { dst := some 76, op := .mov (.t 5) },
  { dst := none, op := .store (some 3) (.t 2) (.t 75) },
  { dst := some 3, op := .mov (.t 76) },
  { dst := some 4, op := .mov (.c (.int .i64 0)) }]
def v36_54 : VCode := (.seq (.region false r36_53) (.keep [2, 3, 4] (.weak .ret)))
def v36_55 : VCode := (.seq v36_52 v36_54)
def v36_56 : VCode := (.seq v36_46 v36_55)
def v36_57 : VCode := (.seq (.region false r36_4) (.keep [0, 2, 5, 6, 7] (.weak v36_56)))
def v36_58 : VCode := (.seq (.region false r36_3) (.keep [0, 2, 5, 6] (.weak v36_57)))
def v36_59 : VCode := (.seq (.region false r36_2) (.keep [0, 2, 5] (.weak v36_58)))
def v36 : VCode := (.seq (.region false r36_1) (.keep [0, 2] (.weak v36_59)))
theorem hv36 : codeOf Tryd.prog Tryd.f36.ntmps v36 (Tryd.f36.body.getD .skip) = some v36 := by kernel_rfl
theorem ok36 {ds : List PV} {r : PV} {fl : Bool} (h : vwp Tryd.prog v36 (retQ [(2, some (some 3)), (3, none), (4, none)] r fl) (initSt ds)) : CallOK Tryd.prog 36 ds r fl :=
  fn_ok Tryd.func36 rfl (by decide) hv36 rfl mixed h

/- stringslite_TrimPrefix -/
def r70_1 : List VOper := [
  { dst := some 4, op := .mov (.c (.str [])) }]
def r70_2 : List VOper := [
  { dst := some 5, op := .mov (.t 0) },
  { dst := some 6, op := .mov (.t 1) },
  { dst := some 7, op := .call 61 [(.t 5), (.t 6)] }]
def r70_3 : List VOper := [
  { dst := some 8, op := .mov (.t 0) },
  { dst := some 9, op := .mov (.t 1) },
  { dst := some 10, op := .lenStr (.t 9) },
  { dst := some 11, op := .slStr (.t 8) (some (.t 10)) none },
  { dst := some 4, op := .mov (.t 11) }]
def v70_4 : VCode := (.seq (.region false r70_3) (.keep [4] (.weak .ret)))
def v70_5 : VCode := (.keep [0] (.weak .skip))
def v70_6 : VCode := (.cond (.t 7) v70_4 v70_5)
def v70_7 : VCode := (.seq (.region false r70_2) (.keep [0, 1, 7] (.weak v70_6)))
def r70_8 : List VOper := [
  { dst := some 12, op := .mov (.t 0) },
  { dst := some 4, op := .mov (.t 12) }]
def v70_9 : VCode := (.seq (.region false r70_8) (.keep [4] (.weak .ret)))
def v70_10 : VCode := (.seq v70_7 v70_9)
def v70 : VCode := (.seq (.region false r70_1) (.keep [0, 1] (.weak v70_10)))
theorem hv70 : codeOf Tryd.prog Tryd.f70.ntmps v70 (Tryd.f70.body.getD .skip) = some v70 := by kernel_rfl
theorem ok70 {ds : List PV} {r : PV} {fl : Bool} (h : vwp Tryd.prog v70 (retQ [(4, none)] r fl) (initSt ds)) : CallOK Tryd.prog 70 ds r fl :=
  fn_ok Tryd.func70 rfl (by decide) hv70 rfl mixed h

/- strings_TrimPrefix -/
def r63_1 : List VOper := [
  { dst := some 4, op := .mov (.c (.str [])) }]
def r63_2 : List VOper := [
  { dst := some 5, op := .mov (.t 0) },
  { dst := some 6, op := .mov (.t 1) },
  { dst := some 7, op := .call 70 [(.t 5), (.t 6)] },
  { dst := some 4, op := .mov (.t 7) }]
def v63_3 : VCode := (.seq (.region false r63_2) (.keep [4] (.weak .ret)))
def v63 : VCode := (.seq (.region false r63_1) (.keep [0, 1] (.weak v63_3)))
theorem hv63 : codeOf Tryd.prog Tryd.f63.ntmps v63 (Tryd.f63.body.getD .skip) = some v63 := by kernel_rfl
theorem ok63 {ds : List PV} {r : PV} {fl : Bool} (h : vwp Tryd.prog v63 (retQ [(4, none)] r fl) (initSt ds)) : CallOK Tryd.prog 63 ds r fl :=
  fn_ok Tryd.func63 rfl (by decide) hv63 rfl mixed h

/- attr_isName -/
def r46_1 : List VOper := [
  { dst := some 2, op := .mov (.c (.bool false)) }]
def r46_2 : List VOper := [
  { dst := some 5, op := .mov (.t 0) },
  { dst := some 6, op := .call 63 [(.t 5), (.c (.str [33]))] },
  { dst := some 0, op := .mov (.t 6) }]
def r46_3 : List VOper := [
  { dst := some 7, op := .mov (.t 0) },
  { dst := some 8, op := .bin .eql (.t 7) (.c (.str [])) },
  { dst := some 9, op := .mov (.t 8) },
  { dst := some 10, op := .mov (.t 0), guard := some (9, false) },
  { dst := some 11, op := .lenStr (.t 10), guard := some (9, false) },
  { dst := some 12, op := .bin .gtr (.t 11) (.c (.int .i64 32)), guard := some (9, false) },
  { dst := some 13, op := .pick (.t 9) (.c (.bool true)) (.t 12) },
  { dst := some 14, op := .mov (.t 13) },
  { dst := some 15, op := .mov (.t 0), guard := some (14, false) },
  { dst := some 16, op := .indexStr (.t 15) (.c (.int .i64 0)), guard := some (14, false) },
  { dst := some 17, op := .bin .lss (.t 16) (.c (.int .u8 97)), guard := some (14, false) },
  { dst := some 18, op := .pick (.t 14) (.c (.bool true)) (.t 17) },
  { dst := some 19, op := .mov (.t 18) },
  { dst := some 20, op := .mov (.t 0), guard := some (19, false) },
  { dst := some 21, op := .indexStr (.t 20) (.c (.int .i64 0)), guard := some (19, false) },
  { dst := some 22, op := .bin .gtr (.t 21) (.c (.int .u8 122)), guard := some (19, false) },
  { dst := some 23, op := .pick (.t 19) (.c (.bool true)) (.t 22) }]
def r46_4 : List VOper := [
  { dst := some 2, op := .mov (.c (.bool false)) }]
def v46_5 : VCode := (.seq (.region false r46_4) (.keep [2] (.weak .ret)))
def v46_6 : VCode := (.keep [0] (.weak .skip))
def v46_7 : VCode := (.cond (.t 23) v46_5 v46_6)
def v46_8 : VCode := (.seq (.region false r46_3) (.keep [0, 23] (.weak v46_7)))
def r46_9 : List VOper := [
  { dst := some 24, op := .mov (.t 0) },
  { dst := some 25, op := .lenStr (.t 24) },
  { dst := some 26, op := .mov (.c (.int .i64 0)) }]
def r46_10 : List VOper := [
  { dst := some 27, op := .bin .lss (.t 26) (.t 25) }]
def v46_11 : VCode := (.keep [0, 25, 26] (.weak .skip))
def v46_12 : VCode := (.keep [] (.weak (.exit 0)))
def v46_13 : VCode := (.cond (.t 27) v46_11 v46_12)
def r46_14 : List VOper := [
  { dst := some 28, op := .mov (.t 26) },
  { dst := some 3, op := .mov (.t 28) }]
def r46_15 : List VOper := [
  { dst := some 29, op := .mov (.t 0) },
  { dst := some 30, op := .mov (.t 3) },
  { dst := some 31, op := .indexStr (.t 29) (.t 30) },
  { dst := some 4, op := .mov (.t 31) }]
def r46_16 : List VOper := [
  { dst := some 32, op := .mov (.t 4) },
  { dst := some 33, op := .bin .lss (.t 32) (.c (.int .u8 97)) },
  { dst := some 34, op := .mov (.t 33) },
  { dst := some 35, op := .mov (.t 4), guard := some (34, false) },
  { dst := some 36, op := .bin .gtr (.t 35) (.c (.int .u8 122)), guard := some (34, false) },
  { dst := some 37, op := .pick (.t 34) (.c (.bool true)) (.t 36) },
  { dst := some 38, op := .mov (.t 37) },
  { dst := some 39, op := .mov (.t 4), guard := some (38, true) },
  { dst := some 40, op := .bin .lss (.t 39) (.c (.int .u8 48)), guard := some (38, true) },
  { dst := some 41, op := .mov (.t 40), guard := some (38, true) },
  { dst := some 42, op := .mov (.t 4), guard := some (41, false) },
  { dst := some 43, op := .bin .gtr (.t 42) (.c (.int .u8 57)), guard := some (41, false) },
  { dst := some 44, op := .pick (.t 41) (.c (.bool true)) (.t 43), guard := some (38, true) },
  { dst := some 45, op := .pick (.t 38) (.t 44) (.c (.bool false)) },
  { dst := some 46, op := .mov (.t 45) },
  { dst := some 47, op := .mov (.t 4), guard := some (46, true) },
  { dst := some 48, op := .bin .neq (.t 47) (.c (.int .u8 45)), guard := some (46, true) },
  { dst := some 49, op := .pick (.t 46) (.t 48) (.c (.bool false)) },
  { dst := some 50, op := .mov (.t 49) },
  { dst := some 51, op := .mov (.t 4), guard := some (50, true) },
  { dst := some 52, op := .bin .neq (.t 51) (.c (.int .u8 95)), guard := some (50, true) },
  { dst := some 53, op := .pick (.t 50) (.t 52) (.c (.bool false)) }]
def r46_17 : List VOper := [
  { dst := some 2, op := .mov (.c (.bool false)) }]
def v46_18 : VCode := (.seq (.region false r46_17) (.keep [2] (.weak .ret)))
def v46_19 : VCode := (.keep [0, 25, 26] (.weak .skip))
def v46_20 : VCode := (.cond (.t 53) v46_18 v46_19)
def v46_21 : VCode := (.seq (.region false r46_16) (.keep [0, 25, 26, 53] (.weak v46_20)))
def v46_22 : VCode := (.seq (.region false r46_15) (.keep [0, 4, 25, 26] (.weak v46_21)))
def v46_23 : VCode := (.seq (.region false r46_14) (.keep [0, 3, 25, 26] (.weak v46_22)))
def v46_24 : VCode := (.block 1 v46_23)
def r46_25 : List VOper := [
  { dst := some 54, op := .bin .add (.t 26) (.c (.int .i64 1)) },
  { dst := some 26, op := .mov (.t 54) }]
def v46_26 : VCode := (.post [0, 25, 26] (.region false r46_25))
def v46_27 : VCode := (.seq v46_24 v46_26)
def v46_28 : VCode := (.seq v46_13 v46_27)
def v46_29 : VCode := (.seq (.region false r46_10) (.keep [0, 25, 26, 27] (.weak v46_28)))
def v46_30 : VCode := (.loop [0, 25, 26] v46_29)
def v46_31 : VCode := (.keep [0, 25, 26] (.weak v46_30))
def v46_32 : VCode := (.block 0 v46_31)
def v46_33 : VCode := (.seq (.region false r46_9) (.keep [0, 25, 26] (.weak v46_32)))
def r46_34 : List VOper := [
  { dst := some 2, op := .mov (.c (.bool true)) }]
def v46_35 : VCode := (.seq (.region false r46_34) (.keep [2] (.weak .ret)))
def v46_36 : VCode := (.seq v46_33 v46_35)
def v46_37 : VCode := (.seq v46_8 v46_36)
def v46_38 : VCode := (.seq (.region false r46_2) (.keep [0] (.weak v46_37)))
def v46 : VCode := (.seq (.region false r46_1) (.keep [0] (.weak v46_38)))
theorem hv46 : codeOf Tryd.prog Tryd.f46.ntmps v46 (Tryd.f46.body.getD .skip) = some v46 := by kernel_rfl
theorem ok46 {ds : List PV} {r : PV} {fl : Bool} (h : vwp Tryd.prog v46 (retQ [(2, none)] r fl) (initSt ds)) : CallOK Tryd.prog 46 ds r fl :=
  fn_ok Tryd.func46 rfl (by decide) hv46 rfl mixed h

/- attr_check_1 -/
def r49_1 : List VOper := [
  { dst := some 2, op := .box (some 3) (.t 0) },
  { dst := some 3, op := .mov (.c (.bool false)) }]
def r49_2 : List VOper := [
  { dst := some 4, op := .fieldAddr 0 (.t 2) },
  { dst := some 5, op := .load none (.t 4) },
  { dst := some 6, op := .fieldAddr 0 (.t 1) },
  { dst := some 7, op := .load none (.t 6) },
  { dst := some 8, op := .bin .eql (.t 5) (.t 7) },
  { dst := some 3, op := .mov (.t 8) }]
def v49_3 : VCode := (.seq (.region false r49_2) (.keep [3] (.weak .ret)))
def v49 : VCode := (.seq (.region false r49_1) (.keep [1, 2] (.weak v49_3)))
theorem hv49 : codeOf Tryd.prog Tryd.f49.ntmps v49 (Tryd.f49.body.getD .skip) = some v49 := by kernel_rfl
theorem ok49 {ds : List PV} {r : PV} {fl : Bool} (h : vwp Tryd.prog v49 (retQ [(3, none)] r fl) (initSt ds)) : CallOK Tryd.prog 49 ds r fl :=
  fn_ok Tryd.func49 rfl (by decide) hv49 rfl mixed h

/- slices_IndexFunc_api_Attr_api_Attr_f49 -/
def r60_1 : List VOper := [
  { dst := some 4, op := .mov (.c (.int .i64 0)) }]
def r60_2 : List VOper := [
  { dst := some 6, op := .mov (.t 0) },
  { dst := some 7, op := .lenSl (.t 6) },
  { dst := some 8, op := .mov (.c (.int .i64 0)) }]
def r60_3 : List VOper := [
  { dst := some 9, op := .bin .lss (.t 8) (.t 7) }]
def v60_4 : VCode := (.keep [0, 1, 7, 8] (.weak .skip))
def v60_5 : VCode := (.keep [] (.weak (.exit 0)))
def v60_6 : VCode := (.cond (.t 9) v60_4 v60_5)
def r60_7 : List VOper := [
  { dst := some 10, op := .mov (.t 8) },
  { dst := some 5, op := .mov (.t 10) }]
def r60_8 : List VOper := [
  { dst := some 11, op := .mov (.t 1) },
  { dst := some 12, op := .mov (.t 0) },
  { dst := some 13, op := .mov (.t 5) },
  { dst := some 14, op := .indexAddr (some 3) (.t 12) (.t 13) },
  { dst := some 15, op := .load (some 3) (.t 14) },
  { dst := some 16, op := .callv (.t 11) [(.t 15)] }]
def r60_9 : List VOper := [
  { dst := some 17, op := .mov (.t 5) },
  { dst := some 4, op := .mov (.t 17) }]
def v60_10 : VCode := (.seq (.region false r60_9) (.keep [4] (.weak .ret)))
def v60_11 : VCode := (.keep [0, 1, 7, 8] (.weak .skip))
def v60_12 : VCode := (.cond (.t 16) v60_10 v60_11)
def v60_13 : VCode := (.seq (.region false r60_8) (.keep [0, 1, 5, 7, 8, 16] (.weak v60_12)))
def v60_14 : VCode := (.seq (.region false r60_7) (.keep [0, 1, 5, 7, 8] (.weak v60_13)))
def v60_15 : VCode := (.block 1 v60_14)
def r60_16 : List VOper := [
  { dst := some 18, op := .bin .add (.t 8) (.c (.int .i64 1)) },
  { dst := some 8, op := .mov (.t 18) }]
def v60_17 : VCode := (.post [0, 1, 7, 8] (.region false r60_16))
def v60_18 : VCode := (.seq v60_15 v60_17)
def v60_19 : VCode := (.seq v60_6 v60_18)
def v60_20 : VCode := (.seq (.region false r60_3) (.keep [0, 1, 7, 8, 9] (.weak v60_19)))
def v60_21 : VCode := (.loop [0, 1, 7, 8] v60_20)
def v60_22 : VCode := (.keep [0, 1, 7, 8] (.weak v60_21))
def v60_23 : VCode := (.block 0 v60_22)
def v60_24 : VCode := (.seq (.region false r60_2) (.keep [0, 1, 7, 8] (.weak v60_23)))
def r60_25 : List VOper := [
  { dst := some 4, op := .mov (.c (.int .i64 (-1))) }]
def v60_26 : VCode := (.seq (.region false r60_25) (.keep [4] (.weak .ret)))
def v60_27 : VCode := (.seq v60_24 v60_26)
def v60 : VCode := (.seq (.region false r60_1) (.keep [0, 1] (.weak v60_27)))
theorem hv60 : codeOf Tryd.prog Tryd.f60.ntmps v60 (Tryd.f60.body.getD .skip) = some v60 := by kernel_rfl
theorem ok60 {ds : List PV} {r : PV} {fl : Bool} (h : vwp Tryd.prog v60 (retQ [(4, none)] r fl) (initSt ds)) : CallOK Tryd.prog 60 ds r fl :=
  fn_ok Tryd.func60 rfl (by decide) hv60 rfl mixed h

/- slices_ContainsFunc_api_Attr_api_Attr_f49 -/
def r48_1 : List VOper := [
  { dst := some 4, op := .mov (.c (.bool false)) }]
def r48_2 : List VOper := [
  { dst := some 5, op := .mov (.t 0) },
  { dst := some 6, op := .mov (.t 1) },
  { dst := some 7, op := .call 60 [(.t 5), (.t 6)] },
  { dst := some 8, op := .bin .geq (.t 7) (.c (.int .i64 0)) },
  { dst := some 4, op := .mov (.t 8) }]
def v48_3 : VCode := (.seq (.region false r48_2) (.keep [4] (.weak .ret)))
def v48 : VCode := (.seq (.region false r48_1) (.keep [0, 1] (.weak v48_3)))
theorem hv48 : codeOf Tryd.prog Tryd.f48.ntmps v48 (Tryd.f48.body.getD .skip) = some v48 := by kernel_rfl
theorem ok48 {ds : List PV} {r : PV} {fl : Bool} (h : vwp Tryd.prog v48 (retQ [(4, none)] r fl) (initSt ds)) : CallOK Tryd.prog 48 ds r fl :=
  fn_ok Tryd.func48 rfl (by decide) hv48 rfl mixed h

/- attr_check -/
def r30_1 : List VOper := [
  { dst := some 3, op := .box (some 3) (.t 1) },
  { dst := some 4, op := .mov (.c (.int .i64 0)) }]
def r30_2 : List VOper := [
  { dst := some 6, op := .mov (.t 0) },
  { dst := some 7, op := .lenSl (.t 6) },
  { dst := some 8, op := .bin .geq (.t 7) (.c (.int .i64 32)) },
  { dst := some 5, op := .mov (.t 8) }]
def r30_3 : List VOper := [
  { dst := some 4, op := .mov (.c (.int .i64 22)) }]
def v30_4 : VCode := (.seq (.region false r30_3) (.keep [4] (.weak .ret)))
def r30_5 : List VOper := [
  { dst := some 10, op := .fieldAddr 0 (.t 3) },
  { dst := some 11, op := .load none (.t 10) },
  { dst := some 12, op := .call 46 [(.t 11)] },
  { dst := some 13, op := .not (.t 12) },
  { dst := some 9, op := .mov (.t 13) }]
def r30_6 : List VOper := [
  { dst := some 4, op := .mov (.c (.int .i64 6)) }]
def v30_7 : VCode := (.seq (.region false r30_6) (.keep [4] (.weak .ret)))
def r30_8 : List VOper := [
  { dst := some 15, op := .fieldAddr 2 (.t 3) },
  { dst := some 16, op := .load none (.t 15) },
  { dst := some 17, op := .mov (.t 16) },
  { dst := some 18, op := .fieldAddr 1 (.t 3), guard := some (17, true) },
  { dst := some 19, op := .load none (.t 18), guard := some (17, true) },
  { dst := some 20, op := .bin .neq (.t 19) (.c (.str [])), guard := some (17, true) },
  { dst := some 21, op := .pick (.t 17) (.t 20) (.c (.bool false)) },
  { dst := some 14, op := .mov (.t 21) }]
def r30_9 : List VOper := [
  { dst := some 4, op := .mov (.c (.int .i64 2)) }]
def v30_10 : VCode := (.seq (.region false r30_9) (.keep [4] (.weak .ret)))
def r30_11 : List VOper := [
  { dst := some 23, op := .fieldAddr 1 (.t 3) },
  { dst := some 24, op := .load none (.t 23), bef := [0] },
  { dst := some 25, op := .call 47 [(.t 24), (.c (.str [0, 10, 13]))], bef := [0, 1] },
  { dst := some 26, op := .fieldAddr 1 (.t 3) },
  { dst := some 27, op := .load none (.t 26), bef := [3] },
  { dst := some 28, op := .lenStr (.t 27), bef := [3, 4] },
  { dst := some 29, op := .bin .lss (.t 25) (.t 28), bef := [0, 1, 2, 3, 4, 5] },
  { dst := some 22, op := .mov (.t 29), bef := [0, 1, 2, 3, 4, 5, 6] }]
def r30_12 : List VOper := [
  { dst := some 4, op := .mov (.c (.int .i64 2)) }]
def v30_13 : VCode := (.seq (.region false r30_12) (.keep [4] (.weak .ret)))
def r30_14 : List VOper := [
  { dst := some 31, op := .fieldAddr 1 (.t 3) },
  { dst := some 32, op := .load none (.t 31) },
  { dst := some 33, op := .lenStr (.t 32) },
  { dst := some 34, op := .bin .gtr (.t 33) (.c (.int .i64 1024)) },
  { dst := some 30, op := .mov (.t 34) }]
def r30_15 : List VOper := [
  { dst := some 4, op := .mov (.c (.int .i64 4)) }]
def v30_16 : VCode := (.seq (.region false r30_15) (.keep [4] (.weak .ret)))
def r30_17 : List VOper := [
  { dst := some 36, op := .mov (.t 0) },
  { dst := some 37, op := .mkfn 49 [(.t 3)] },
  { dst := some 38, op := .call 48 [(.t 36), (.t 37)] },
  { dst := some 35, op := .mov (.t 38) }]
def r30_18 : List VOper := [
  { dst := some 4, op := .mov (.c (.int .i64 7)) }]
def v30_19 : VCode := (.seq (.region false r30_18) (.keep [4] (.weak .ret)))
def v30_20 : VCode := (.keep [] (.weak .skip))
def v30_21 : VCode := (.cond (.t 35) v30_19 v30_20)
def v30_22 : VCode := (.seq (.region false r30_17) (.keep [35] (.weak v30_21)))
def v30_23 : VCode := (.cond (.t 30) v30_16 v30_22)
def v30_24 : VCode := (.seq (.region false r30_14) (.keep [0, 3, 30] (.weak v30_23)))
def v30_25 : VCode := (.cond (.t 22) v30_13 v30_24)
def v30_26 : VCode := (.seq (.region true r30_11) (.keep [0, 3, 22] (.weak v30_25)))
def v30_27 : VCode := (.cond (.t 14) v30_10 v30_26)
def v30_28 : VCode := (.seq (.region false r30_8) (.keep [0, 3, 14] (.weak v30_27)))
def v30_29 : VCode := (.cond (.t 9) v30_7 v30_28)
def v30_30 : VCode := (.seq (.region false r30_5) (.keep [0, 3, 9] (.weak v30_29)))
def v30_31 : VCode := (.cond (.t 5) v30_4 v30_30)
def v30_32 : VCode := (.seq (.region false r30_2) (.keep [0, 3, 5] (.weak v30_31)))
def v30_33 : VCode := (.block 0 v30_32)
def r30_34 : List VOper := [
  { dst := some 4, op := .mov (.c (.int .i64 0)) }]
def v30_35 : VCode := (.seq (.region false r30_34) (.keep [4] (.weak .ret)))
def v30_36 : VCode := (.seq v30_33 v30_35)
def v30 : VCode := (.seq (.region false r30_1) (.keep [0, 3] (.weak v30_36)))
theorem hv30 : codeOf Tryd.prog Tryd.f30.ntmps v30 (Tryd.f30.body.getD .skip) = some v30 := by kernel_rfl
theorem ok30 {ds : List PV} {r : PV} {fl : Bool} (h : vwp Tryd.prog v30 (retQ [(4, none)] r fl) (initSt ds)) : CallOK Tryd.prog 30 ds r fl :=
  fn_ok Tryd.func30 rfl (by decide) hv30 rfl mixed h

/- attr_Parse -/
def r17_1 : List VOper := [
  { dst := some 2, op := .mov (.c (.nilsl)) },
  { dst := some 3, op := .mov (.c (.int .i64 0)) },
  { dst := some 4, op := .mov (.c (.int .i64 0)) }]
def r17_2 : List VOper := [
  { dst := some 5, op := .mov (.c (.nilsl)) }]
def r17_3 : List VOper := [
  { dst := some 6, op := .mov (.c (.int .i64 0)) }]
def r17_4 : List VOper := [
  { dst := some 10, op := .mov (.t 6) },
  { dst := some 11, op := .mov (.t 0) },
  { dst := some 12, op := .lenStr (.t 11) },
  { dst := some 13, op := .bin .lss (.t 10) (.t 12) }]
def v17_5 : VCode := (.keep [0, 5, 6] (.weak .skip))
def v17_6 : VCode := (.keep [5] (.weak (.exit 0)))
def v17_7 : VCode := (.cond (.t 13) v17_5 v17_6)
def v17_8 : VCode := (.seq (.region false r17_4) (.keep [0, 5, 6, 13] (.weak v17_7)))
def r17_9 : List VOper := [
  { dst := some 14, op := .mov (.t 0) },
  { dst := some 15, op := .mov (.t 6) },
  { dst := some 16, op := .indexStr (.t 14) (.t 15) },
  { dst := some 17, op := .call 35 [(.t 16)] }]
def r17_10 : List VOper := [
  { dst := some 18, op := .mov (.t 6) },
  { dst := some 19, op := .bin .add (.t 18) (.c (.int .i64 1)) },
  { dst := some 6, op := .mov (.t 19) }]
def v17_11 : VCode := (.keep [0, 5, 6] (.weak (.exit 1)))
def v17_12 : VCode := (.seq (.region false r17_10) (.keep [0, 5, 6] (.weak v17_11)))
def v17_13 : VCode := (.keep [0, 5, 6] (.weak .skip))
def v17_14 : VCode := (.cond (.t 17) v17_12 v17_13)
def v17_15 : VCode := (.seq (.region false r17_9) (.keep [0, 5, 6, 17] (.weak v17_14)))
def r17_16 : List VOper := [
  { dst := some 21, op := .mov (.t 0) },
  { dst := some 22, op := .mov (.t 6) },
  { dst := some 23, op := .slStr (.t 21) (some (.t 22)) none },
  { dst := some 24, op := .call 36 [(.t 23)] },
  { dst := some 20, op := .mov (.t 24) },
  { dst := some 25, op := .extract (.t 20) 0 },
  { dst := some 26, op := .extract (.t 20) 1 },
  { dst := some 27, op := .extract (.t 20) 2 },
  { dst := some 7, op := .alloc (some 3) (.agg [.str [], .str [], .bool false]) },
  { dst := none, op := .store (some 3) (.t 7) (.t 25) },
  { dst := some 8, op := .mov (.t 26) },
  { dst := some 9, op := .mov (.t 27) }]
def r17_17 : List VOper := [
  { dst := some 28, op := .mov (.t 9) },
  { dst := some 29, op := .bin .eql (.t 28) (.c (.int .i64 0)) }]
def r17_18 : List VOper := [
  { dst := some 30, op := .mov (.t 5) },
  { dst := some 31, op := .load (some 3) (.t 7) },
  { dst := some 32, op := .call 30 [(.t 30), (.t 31)] },
  { dst := some 9, op := .mov (.t 32) }]
def v17_19 : VCode := (.post [0, 5, 6, 7, 8, 9] (.region false r17_18))
def v17_20 : VCode := (.keep [0, 5, 6, 7, 8, 9] (.weak .skip))
def v17_21 : VCode := (.cond (.t 29) v17_19 v17_20)
def v17_22 : VCode := (.seq (.region false r17_17) (.keep [0, 5, 6, 7, 8, 9, 29] (.weak v17_21)))
def r17_23 : List VOper := [
  { dst := some 33, op := .mov (.t 9) },
  { dst := some 34, op := .bin .neq (.t 33) (.c (.int .i64 0)) }]
def r17_24 : List VOper := [
  { dst := some 35, op := .mov (.t 6) },
  { dst := some 36, op := .mov (.t 9) },
  { dst := some 2, op := .mov (.c (.nilsl)) },
  { dst := some 3, op := .mov (.t 35) },
  { dst := some 4, op := .mov (.t 36) }]
def v17_25 : VCode := (.seq (.region false r17_24) (.keep [2, 3, 4] (.weak .ret)))
def v17_26 : VCode := (.keep [0, 5, 6, 7, 8] (.weak .skip))
def v17_27 : VCode := (.cond (.t 34) v17_25 v17_26)
def v17_28 : VCode := (.seq (.region false r17_23) (.keep [0, 5, 6, 7, 8, 9, 34] (.weak v17_27)))
def r17_29 : List VOper := [
  { dst := some 37, op := .mov (.t 5) },
  { dst := some 38, op := .load (some 3) (.t 7) },
  { dst := some 39, op := .buildSlice (some 3) (.agg [.str [], .str [], .bool false]) 1 [(0, (.t 38))] },
  { dst := some 40, op := .append (some 3) 40 (.t 37) (.t 39) },
  { dst := some 5, op := .mov (.t 40) }]
def r17_30 : List VOper := [
  { dst := some 41, op := .mov (.t 6) },
  { dst := some 42, op := .mov (.t 8) },
  { dst := some 43, op := .bin .add (.t 41) (.t 42) },
  { dst := some 6, op := .mov (.t 43) }]
def v17_31 : VCode := (.post [0, 5, 6] (.region false r17_30))
def v17_32 : VCode := (.seq (.region false r17_29) (.keep [0, 5, 6, 8] (.weak v17_31)))
def v17_33 : VCode := (.seq v17_28 v17_32)
def v17_34 : VCode := (.seq v17_22 v17_33)
def v17_35 : VCode := (.seq (.region false r17_16) (.keep [0, 5, 6, 7, 8, 9] (.weak v17_34)))
def v17_36 : VCode := (.seq v17_15 v17_35)
def v17_37 : VCode := (.block 1 v17_36)
def v17_38 : VCode := (.seq v17_8 v17_37)
def v17_39 : VCode := (.loop [0, 5, 6] v17_38)
def v17_40 : VCode := (.keep [0, 5, 6] (.weak v17_39))
def v17_41 : VCode := (.block 0 v17_40)
def v17_42 : VCode := (.seq (.region false r17_3) (.keep [0, 5, 6] (.weak v17_41)))
def r17_43 : List VOper := [
  { dst := some 44, op := .mov (.t 5) },
  { dst := some 2, op := .mov (.t 44) },
  { dst := some 3, op := .mov (.c (.int .i64 0)) },
  { dst := some 4, op := .mov (.c (.int .i64 0)) }]
def v17_44 : VCode := (.seq (.region false r17_43) (.keep [2, 3, 4] (.weak .ret)))
def v17_45 : VCode := (.seq v17_42 v17_44)
def v17_46 : VCode := (.seq (.region false r17_2) (.keep [0, 5] (.weak v17_45)))
def v17 : VCode := (.seq (.region false r17_1) (.keep [0] (.weak v17_46)))
theorem hv17 : codeOf Tryd.prog Tryd.f17.ntmps v17 (Tryd.f17.body.getD .skip) = some v17 := by kernel_rfl
theorem ok17 {ds : List PV} {r : PV} {fl : Bool} (h : vwp Tryd.prog v17 (retQ [(2, none), (3, none), (4, none)] r fl) (initSt ds)) : CallOK Tryd.prog 17 ds r fl :=
  fn_ok Tryd.func17 rfl (by decide) hv17 rfl mixed h

/- attr_Check -/
def r13_1 : List VOper := [
  { dst := some 2, op := .mov (.c (.int .i64 0)) }]
def r13_2 : List VOper := [
  { dst := some 6, op := .mov (.t 0) },
  { dst := some 7, op := .lenSl (.t 6) },
  { dst := some 8, op := .mov (.c (.int .i64 0)) }]
def r13_3 : List VOper := [
  { dst := some 9, op := .bin .lss (.t 8) (.t 7) }]
def v13_4 : VCode := (.keep [0, 6, 7, 8] (.weak .skip))
def v13_5 : VCode := (.keep [] (.weak (.exit 0)))
def v13_6 : VCode := (.cond (.t 9) v13_4 v13_5)
def r13_7 : List VOper := [
  { dst := some 10, op := .mov (.t 8) },
  { dst := some 11, op := .indexAddr (some 3) (.t 6) (.t 8) },
  { dst := some 12, op := .load (some 3) (.t 11) },
  { dst := some 4, op := .alloc (some 3) (.agg [.str [], .str [], .bool false]) },
  { dst := some 3, op := .mov (.t 10) },
  { dst := none, op := .store (some 3) (.t 4) (.t 12) }]
def r13_8 : List VOper := [
  { dst := some 13, op := .mov (.t 0) },
  { dst := some 14, op := .mov (.t 3) },
  { dst := some 15, op := .slSl (some 3) (.t 13) none (some (.t 14)), bef := [0, 1] },
  { dst := some 16, op := .load (some 3) (.t 4) },
  { dst := some 17, op := .call 30 [(.t 15), (.t 16)], bef := [0, 1, 2, 3] },
  { dst := some 5, op := .mov (.t 17), bef := [0, 1, 2, 3, 4] }]
def r13_9 : List VOper := [
  { dst := some 18, op := .mov (.t 5) },
  { dst := some 19, op := .bin .neq (.t 18) (.c (.int .i64 0)) }]
def r13_10 : List VOper := [
  { dst := some 20, op := .mov (.t 5) },
  { dst := some 2, op := .mov (.t 20) }]
def v13_11 : VCode := (.seq (.region false r13_10) (.keep [2] (.weak .ret)))
def v13_12 : VCode := (.keep [0, 6, 7, 8] (.weak .skip))
def v13_13 : VCode := (.cond (.t 19) v13_11 v13_12)
def v13_14 : VCode := (.seq (.region false r13_9) (.keep [0, 5, 6, 7, 8, 19] (.weak v13_13)))
def v13_15 : VCode := (.seq (.region true r13_8) (.keep [0, 5, 6, 7, 8] (.weak v13_14)))
def v13_16 : VCode := (.seq (.region false r13_7) (.keep [0, 3, 4, 6, 7, 8] (.weak v13_15)))
def v13_17 : VCode := (.block 1 v13_16)
def r13_18 : List VOper := [
  { dst := some 21, op := .bin .add (.t 8) (.c (.int .i64 1)) },
  { dst := some 8, op := .mov (.t 21) }]
def v13_19 : VCode := (.post [0, 6, 7, 8] (.region false r13_18))
def v13_20 : VCode := (.seq v13_17 v13_19)
def v13_21 : VCode := (.seq v13_6 v13_20)
def v13_22 : VCode := (.seq (.region false r13_3) (.keep [0, 6, 7, 8, 9] (.weak v13_21)))
def v13_23 : VCode := (.loop [0, 6, 7, 8] v13_22)
def v13_24 : VCode := (.keep [0, 6, 7, 8] (.weak v13_23))
def v13_25 : VCode := (.block 0 v13_24)
def v13_26 : VCode := (.seq (.region false r13_2) (.keep [0, 6, 7, 8] (.weak v13_25)))
def r13_27 : List VOper := [
  { dst := some 2, op := .mov (.c (.int .i64 0)) }]
def v13_28 : VCode := (.seq (.region false r13_27) (.keep [2] (.weak .ret)))
def v13_29 : VCode := (.seq v13_26 v13_28)
def v13 : VCode := (.seq (.region false r13_1) (.keep [0] (.weak v13_29)))
theorem hv13 : codeOf Tryd.prog Tryd.f13.ntmps v13 (Tryd.f13.body.getD .skip) = some v13 := by kernel_rfl
theorem ok13 {ds : List PV} {r : PV} {fl : Bool} (h : vwp Tryd.prog v13 (retQ [(2, none)] r fl) (initSt ds)) : CallOK Tryd.prog 13 ds r fl :=
  fn_ok Tryd.func13 rfl (by decide) hv13 rfl mixed h

/- attr_quote -/
def r32_1 : List VOper := [
  { dst := some 2, op := .mov (.c (.str [])) }]
def r32_2 : List VOper := [
  { dst := some 3, op := .mov (.t 0) },
  { dst := some 4, op := .bin .neq (.t 3) (.c (.str [])) },
  { dst := some 5, op := .mov (.t 4) },
  { dst := some 6, op := .mov (.t 0), guard := some (5, true) },
  { dst := some 7, op := .call 47 [(.t 6), (.c (.str [32, 9, 39]))], guard := some (5, true) },
  { dst := some 8, op := .mov (.t 0), guard := some (5, true) },
  { dst := some 9, op := .lenStr (.t 8), guard := some (5, true) },
  { dst := some 10, op := .bin .eql (.t 7) (.t 9), guard := some (5, true) },
  { dst := some 11, op := .pick (.t 5) (.t 10) (.c (.bool false)) }]
def r32_3 : List VOper := [
  { dst := some 12, op := .mov (.t 0) },
  { dst := some 2, op := .mov (.t 12) }]
def v32_4 : VCode := (.seq (.region false r32_3) (.keep [2] (.weak .ret)))
def v32_5 : VCode := (.keep [0] (.weak .skip))
def v32_6 : VCode := (.cond (.t 11) v32_4 v32_5)
def v32_7 : VCode := (.seq (.region false r32_2) (.keep [0, 11] (.weak v32_6)))
def r32_8 : List VOper := [
  { dst := some 13, op := .mov (.t 0) },
  { dst := some 14, op := .call 52 [(.t 13), (.c (.str [39])), (.c (.str [39, 39]))] },
  { dst := some 15, op := .bin .add (.c (.str [39])) (.t 14) },
  { dst := some 16, op := .bin .add (.t 15) (.c (.str [39])) },
  { dst := some 2, op := .mov (.t 16) }]
def v32_9 : VCode := (.seq (.region false r32_8) (.keep [2] (.weak .ret)))
def v32_10 : VCode := (.seq v32_7 v32_9)
def v32 : VCode := (.seq (.region false r32_1) (.keep [0] (.weak v32_10)))
theorem hv32 : codeOf Tryd.prog Tryd.f32.ntmps v32 (Tryd.f32.body.getD .skip) = some v32 := by kernel_rfl
theorem ok32 {ds : List PV} {r : PV} {fl : Bool} (h : vwp Tryd.prog v32 (retQ [(2, none)] r fl) (initSt ds)) : CallOK Tryd.prog 32 ds r fl :=
  fn_ok Tryd.func32 rfl (by decide) hv32 rfl mixed h

/- attr_Print -/
def r15_1 : List VOper := [
  { dst := some 2, op := .mov (.c (.str [])) },
  { dst := some 3, op := .mov (.c (.int .i64 0)) }]
def r15_2 : List VOper := [
  { dst := some 8, op := .mov (.t 0) },
  { dst := some 9, op := .call 13 [(.t 8)] },
  { dst := some 4, op := .mov (.t 9) }]
def r15_3 : List VOper := [
  { dst := some 10, op := .mov (.t 4) },
  { dst := some 11, op := .bin .neq (.t 10) (.c (.int .i64 0)) }]
def r15_4 : List VOper := [
  { dst := some 12, op := .mov (.t 4) },
  { dst := some 2, op := .mov (.c (.str [])) },
  { dst := some 3, op := .mov (.t 12) }]
def v15_5 : VCode := (.seq (.region false r15_4) (.keep [2, 3] (.weak .ret)))
def v15_6 : VCode := (.keep [0] (.weak .skip))
def v15_7 : VCode := (.cond (.t 11) v15_5 v15_6)
def v15_8 : VCode := (.seq (.region false r15_3) (.keep [0, 4, 11] (.weak v15_7)))
def v15_9 : VCode := (.seq (.region false r15_2) (.keep [0, 4] (.weak v15_8)))
def r15_10 : List VOper := [
  { dst := some 13, op := .mov (.t 0) },
  { dst := some 14, op := .lenSl (.t 13) },
  { dst := some 15, op := .makeSlice none 16 (.str []) (.c (.int .i64 0)) (.t 14) },
  { dst := some 5, op := .mov (.t 15) }]
def r15_11 : List VOper := [
  { dst := some 16, op := .mov (.t 0) },
  { dst := some 17, op := .lenSl (.t 16) },
  { dst := some 18, op := .mov (.c (.int .i64 0)) }]
def r15_12 : List VOper := [
  { dst := some 19, op := .bin .lss (.t 18) (.t 17) }]
def v15_13 : VCode := (.keep [5, 16, 17, 18] (.weak .skip))
def v15_14 : VCode := (.keep [5] (.weak (.exit 0)))
def v15_15 : VCode := (.cond (.t 19) v15_13 v15_14)
def r15_16 : List VOper := [
  { dst := some 20, op := .indexAddr (some 3) (.t 16) (.t 18) },
  { dst := some 21, op := .load (some 3) (.t 20) },
  { dst := some 7, op := .alloc (some 3) (.agg [.str [], .str [], .bool false]) },
  { dst := none, op := .store (some 3) (.t 7) (.t 21) }]
def r15_17 : List VOper := [
  { dst := some 22, op := .fieldAddr 2 (.t 7) },
  { dst := some 23, op := .load none (.t 22) }]
def r15_18 : List VOper := [
  { dst := some 24, op := .mov (.t 5) },
  { dst := some 25, op := .fieldAddr 0 (.t 7) },
  { dst := some 26, op := .load none (.t 25) },
  { dst := some 27, op := .bin .add (.t 26) (.c (.str [63])) },
  { dst := some 28, op := .buildSlice none (.str []) 1 [(0, (.t 27))] },
  { dst := some 29, op := .append none 16 (.t 24) (.t 28) },
  { dst := some 5, op := .mov (.t 29) }]
def v15_19 : VCode := (.post [5, 16, 17, 18] (.region false r15_18))
def r15_20 : List VOper := [
  { dst := some 30, op := .mov (.t 5) },
  { dst := some 31, op := .fieldAddr 0 (.t 7) },
  { dst := some 32, op := .load none (.t 31), bef := [1] },
  { dst := some 33, op := .bin .add (.t 32) (.c (.str [61])), bef := [1, 2] },
  { dst := some 34, op := .fieldAddr 1 (.t 7) },
  { dst := some 35, op := .load none (.t 34), bef := [4] },
  { dst := some 36, op := .call 32 [(.t 35)], bef := [4, 5] },
  { dst := some 37, op := .bin .add (.t 33) (.t 36), bef := [1, 2, 3, 4, 5, 6] },
  { dst := some 38, op := .buildSlice none (.str []) 1 [(0, (.t 37))], bef := [1, 2, 3, 4, 5, 6, 7] },
  { dst := some 39, op := .append none 16 (.t 30) (.t 38), bef := [0, 1, 2, 3, 4, 5, 6, 7, 8] },
  { dst := some 5, op := .mov (.t 39), bef := [0, 1, 2, 3, 4, 5, 6, 7, 8, 9] }]
def v15_21 : VCode := (.post [5, 16, 17, 18] (.region true r15_20))
def v15_22 : VCode := (.cond (.t 23) v15_19 v15_21)
def v15_23 : VCode := (.seq (.region false r15_17) (.keep [5, 7, 16, 17, 18, 23] (.weak v15_22)))
def v15_24 : VCode := (.seq (.region false r15_16) (.keep [5, 7, 16, 17, 18] (.weak v15_23)))
def v15_25 : VCode := (.block 1 v15_24)
def r15_26 : List VOper := [
  { dst := some 40, op := .bin .add (.t 18) (.c (.int .i64 1)) },
  { dst := some 18, op := .mov (.t 40) }]
def v15_27 : VCode := (.post [5, 16, 17, 18] (.region false r15_26))
def v15_28 : VCode := (.seq v15_25 v15_27)
def v15_29 : VCode := (.seq v15_15 v15_28)
def v15_30 : VCode := (.seq (.region false r15_12) (.keep [5, 16, 17, 18, 19] (.weak v15_29)))
def v15_31 : VCode := (.loop [5, 16, 17, 18] v15_30)
def v15_32 : VCode := (.keep [5, 16, 17, 18] (.weak v15_31))
def v15_33 : VCode := (.block 0 v15_32)
def v15_34 : VCode := (.seq (.region false r15_11) (.keep [5, 16, 17, 18] (.weak v15_33)))
def r15_35 : List VOper := [
  { dst := some 41, op := .mov (.t 5) },
  { dst := some 42, op := .call 33 [(.t 41), (.c (.str [32]))] },
  { dst := some 2, op := .mov (.t 42) },
  { dst := some 3, op := .mov (.c (.int .i64 0)) }]
def v15_36 : VCode := (.seq (.region false r15_35) (.keep [2, 3] (.weak .ret)))
def v15_37 : VCode := (.seq v15_34 v15_36)
def v15_38 : VCode := (.seq (.region false r15_10) (.keep [0, 5] (.weak v15_37)))
def v15_39 : VCode := (.seq v15_9 v15_38)
def v15 : VCode := (.seq (.region false r15_1) (.keep [0] (.weak v15_39)))
theorem hv15 : codeOf Tryd.prog Tryd.f15.ntmps v15 (Tryd.f15.body.getD .skip) = some v15 := by kernel_rfl
theorem ok15 {ds : List PV} {r : PV} {fl : Bool} (h : vwp Tryd.prog v15 (retQ [(2, none), (3, none)] r fl) (initSt ds)) : CallOK Tryd.prog 15 ds r fl :=
  fn_ok Tryd.func15 rfl (by decide) hv15 rfl mixed h

/- attr_index_1 -/
def r62_1 : List VOper := [
  { dst := some 2, op := .box (some 3) (.t 0) },
  { dst := some 3, op := .mov (.c (.bool false)) }]
def r62_2 : List VOper := [
  { dst := some 4, op := .fieldAddr 2 (.t 2) },
  { dst := some 5, op := .load none (.t 4) },
  { dst := some 6, op := .not (.t 5) },
  { dst := some 7, op := .mov (.t 6) },
  { dst := some 8, op := .fieldAddr 0 (.t 2), guard := some (7, true) },
  { dst := some 9, op := .load none (.t 8), guard := some (7, true) },
  { dst := some 10, op := .load none (.t 1), guard := some (7, true) },
  { dst := some 11, op := .bin .eql (.t 9) (.t 10), guard := some (7, true) },
  { dst := some 12, op := .pick (.t 7) (.t 11) (.c (.bool false)) },
  { dst := some 3, op := .mov (.t 12) }]
def v62_3 : VCode := (.seq (.region false r62_2) (.keep [3] (.weak .ret)))
def v62 : VCode := (.seq (.region false r62_1) (.keep [1, 2] (.weak v62_3)))
theorem hv62 : codeOf Tryd.prog Tryd.f62.ntmps v62 (Tryd.f62.body.getD .skip) = some v62 := by kernel_rfl
theorem ok62 {ds : List PV} {r : PV} {fl : Bool} (h : vwp Tryd.prog v62 (retQ [(3, none)] r fl) (initSt ds)) : CallOK Tryd.prog 62 ds r fl :=
  fn_ok Tryd.func62 rfl (by decide) hv62 rfl mixed h

/- attr_index -/
def r44_1 : List VOper := [
  { dst := some 3, op := .box none (.t 1) },
  { dst := some 4, op := .mov (.c (.int .i64 0)) }]
def r44_2 : List VOper := [
  { dst := some 5, op := .mov (.t 0) },
  { dst := some 6, op := .mkfn 62 [(.t 3)] },
  { dst := some 7, op := .call 60 [(.t 5), (.t 6)] },
  { dst := some 4, op := .mov (.t 7) }]
def v44_3 : VCode := (.seq (.region false r44_2) (.keep [4] (.weak .ret)))
def v44 : VCode := (.seq (.region false r44_1) (.keep [0, 3] (.weak v44_3)))
theorem hv44 : codeOf Tryd.prog Tryd.f44.ntmps v44 (Tryd.f44.body.getD .skip) = some v44 := by kernel_rfl
theorem ok44 {ds : List PV} {r : PV} {fl : Bool} (h : vwp Tryd.prog v44 (retQ [(4, none)] r fl) (initSt ds)) : CallOK Tryd.prog 44 ds r fl :=
  fn_ok Tryd.func44 rfl (by decide) hv44 rfl mixed h

/- attr_Find -/
def r24_1 : List VOper := [
  { dst := some 4, op := .mov (.c (.str [])) },
  { dst := some 5, op := .mov (.c (.bool false)) }]
def r24_2 : List VOper := [
  { dst := some 7, op := .mov (.t 0) },
  { dst := some 8, op := .mov (.t 1) },
  { dst := some 9, op := .call 44 [(.t 7), (.t 8)] },
  { dst := some 6, op := .mov (.t 9) }]
def r24_3 : List VOper := [
  { dst := some 10, op := .mov (.t 6) },
  { dst := some 11, op := .bin .lss (.t 10) (.c (.int .i64 0)) }]
def r24_4 : List VOper := [
  { dst := some 4, op := .mov (.c (.str [])) },
  { dst := some 5, op := .mov (.c (.bool false)) }]
def v24_5 : VCode := (.seq (.region false r24_4) (.keep [4, 5] (.weak .ret)))
def v24_6 : VCode := (.keep [0, 6] (.weak .skip))
def v24_7 : VCode := (.cond (.t 11) v24_5 v24_6)
def v24_8 : VCode := (.seq (.region false r24_3) (.keep [0, 6, 11] (.weak v24_7)))
def r24_9 : List VOper := [
  { dst := some 12, op := .mov (.t 0) },
  { dst := some 13, op := .mov (.t 6) },
  { dst := some 14, op := .indexAddr (some 3) (.t 12) (.t 13) },
  { dst := some 15, op := .fieldAddr 1 (.t 14) },
  { dst := some 16, op := .load none (.t 15) },
  { dst := some 4, op := .mov (.t 16) },
  { dst := some 5, op := .mov (.c (.bool true)) }]
def v24_10 : VCode := (.seq (.region false r24_9) (.keep [4, 5] (.weak .ret)))
def v24_11 : VCode := (.seq v24_8 v24_10)
def v24_12 : VCode := (.seq (.region false r24_2) (.keep [0, 6] (.weak v24_11)))
def v24 : VCode := (.seq (.region false r24_1) (.keep [0, 1] (.weak v24_12)))
theorem hv24 : codeOf Tryd.prog Tryd.f24.ntmps v24 (Tryd.f24.body.getD .skip) = some v24 := by kernel_rfl
theorem ok24 {ds : List PV} {r : PV} {fl : Bool} (h : vwp Tryd.prog v24 (retQ [(4, none), (5, none)] r fl) (initSt ds)) : CallOK Tryd.prog 24 ds r fl :=
  fn_ok Tryd.func24 rfl (by decide) hv24 rfl mixed h

/- slices_Clone_api_Attr_api_Attr_n -/
def r40_1 : List VOper := [
  { dst := some 2, op := .mov (.c (.nilsl)) }]
def r40_2 : List VOper := [
  { dst := some 3, op := .mov (.t 0) },
  { dst := some 4, op := .isNil false (.t 3) }]
def r40_3 : List VOper := [
  { dst := some 2, op := .mov (.c (.nilsl)) }]
def v40_4 : VCode := (.seq (.region false r40_3) (.keep [2] (.weak .ret)))
def v40_5 : VCode := (.keep [0] (.weak .skip))
def v40_6 : VCode := (.cond (.t 4) v40_4 v40_5)
def v40_7 : VCode := (.seq (.region false r40_2) (.keep [0, 4] (.weak v40_6)))
def r40_8 : List VOper := [
  { dst := some 5, op := .buildSlice (some 3) (.agg [.str [], .str [], .bool false]) 0 [] },
  { dst := some 6, op := .mov (.t 0) },
  { dst := some 7, op := .append (some 3) 40 (.t 5) (.t 6) },
  { dst := some 2, op := .mov (.t 7) }]
def v40_9 : VCode := (.seq (.region false r40_8) (.keep [2] (.weak .ret)))
def v40_10 : VCode := (.seq v40_7 v40_9)
def v40 : VCode := (.seq (.region false r40_1) (.keep [0] (.weak v40_10)))
theorem hv40 : codeOf Tryd.prog Tryd.f40.ntmps v40 (Tryd.f40.body.getD .skip) = some v40 := by kernel_rfl
theorem ok40 {ds : List PV} {r : PV} {fl : Bool} (h : vwp Tryd.prog v40 (retQ [(2, none)] r fl) (initSt ds)) : CallOK Tryd.prog 40 ds r fl :=
  fn_ok Tryd.func40 rfl (by decide) hv40 rfl mixed h

/- attr_Public_1 -/
def r41_1 : List VOper := [
  { dst := some 1, op := .box (some 3) (.t 0) },
  { dst := some 2, op := .mov (.c (.bool false)) }]
def r41_2 : List VOper := [
  { dst := some 3, op := .fieldAddr 0 (.t 1) },
  { dst := some 4, op := .load none (.t 3) },
  { dst := some 5, op := .call 42 [(.t 4), (.c (.str [33]))] },
  { dst := some 2, op := .mov (.t 5) }]
def v41_3 : VCode := (.seq (.region false r41_2) (.keep [2] (.weak .ret)))
def v41 : VCode := (.seq (.region false r41_1) (.keep [1] (.weak v41_3)))
theorem hv41 : codeOf Tryd.prog Tryd.f41.ntmps v41 (Tryd.f41.body.getD .skip) = some v41 := by kernel_rfl
theorem ok41 {ds : List PV} {r : PV} {fl : Bool} (h : vwp Tryd.prog v41 (retQ [(2, none)] r fl) (initSt ds)) : CallOK Tryd.prog 41 ds r fl :=
  fn_ok Tryd.func41 rfl (by decide) hv41 rfl mixed h

/- slices_DeleteFunc_api_Attr_api_Attr_f41 -/
def r39_1 : List VOper := [
  { dst := some 4, op := .mov (.c (.nilsl)) }]
def r39_2 : List VOper := [
  { dst := some 8, op := .mov (.t 0) },
  { dst := some 9, op := .mov (.t 1) },
  { dst := some 10, op := .call 60 [(.t 8), (.t 9)] },
  { dst := some 5, op := .mov (.t 10) }]
def r39_3 : List VOper := [
  { dst := some 11, op := .mov (.t 5) },
  { dst := some 12, op := .bin .eql (.t 11) (.c (.int .i64 (-1))) }]
def r39_4 : List VOper := [
  { dst := some 13, op := .mov (.t 0) },
  { dst := some 4, op := .mov (.t 13) }]
def v39_5 : VCode := (.seq (.region false r39_4) (.keep [4] (.weak .ret)))
def v39_6 : VCode := (.keep [0, 1, 5] (.weak .skip))
def v39_7 : VCode := (.cond (.t 12) v39_5 v39_6)
def v39_8 : VCode := (.seq (.region false r39_3) (.keep [0, 1, 5, 12] (.weak v39_7)))
def r39_9 : List VOper := [
  { dst := some 14, op := .mov (.t 5) },
  { dst := some 15, op := .bin .add (.t 14) (.c (.int .i64 1)) },
  { dst := some 6, op := .mov (.t 15) }]
def r39_10 : List VOper := [
  { dst := some 16, op := .mov (.t 6) },
  { dst := some 17, op := .mov (.t 0) },
  { dst := some 18, op := .lenSl (.t 17) },
  { dst := some 19, op := .bin .lss (.t 16) (.t 18) }]
def v39_11 : VCode := (.keep [0, 1, 5, 6] (.weak .skip))
def v39_12 : VCode := (.keep [0, 5] (.weak (.exit 0)))
def v39_13 : VCode := (.cond (.t 19) v39_11 v39_12)
def v39_14 : VCode := (.seq (.region false r39_10) (.keep [0, 1, 5, 6, 19] (.weak v39_13)))
def r39_15 : List VOper := [
  { dst := some 22, op := .mov (.t 0) },
  { dst := some 23, op := .mov (.t 6) },
  { dst := some 24, op := .indexAddr (some 3) (.t 22) (.t 23) },
  { dst := some 25, op := .load (some 3) (.t 24) },
  { dst := some 7, op := .alloc (some 3) (.agg [.str [], .str [], .bool false]) },
  { dst := none, op := .store (some 3) (.t 7) (.t 25) }]
def r39_16 : List VOper := [
  { dst := some 26, op := .mov (.t 1) },
  { dst := some 27, op := .load (some 3) (.t 7) },
  { dst := some 28, op := .callv (.t 26) [(.t 27)] },
  { dst := some 29, op := .not (.t 28) }]
def r39_17 : List VOper := [
  { dst := some 30, op := .mov (.t 0) },
  { dst := some 31, op := .mov (.t 5) },
  { dst := some 32, op := .load (some 3) (.t 7) },
  { dst := some 33, op := .indexAddr (some 3) (.t 30) (.t 31) },
  { dst := none, op := .store (some 3) (.t 33) (.t 32) }]
def r39_18 : List VOper := [
  { dst := some 34, op := .mov (.t 5) },
  { dst := some 35, op := .bin .add (.t 34) (.c (.int .i64 1)) },
  { dst := some 5, op := .mov (.t 35) }]
def v39_19 : VCode := (.post [0, 1, 5, 6] (.region false r39_18))
def v39_20 : VCode := (.seq (.region false r39_17) (.keep [0, 1, 5, 6] (.weak v39_19)))
def v39_21 : VCode := (.keep [0, 1, 5, 6] (.weak .skip))
def v39_22 : VCode := (.cond (.t 29) v39_20 v39_21)
def v39_23 : VCode := (.seq (.region false r39_16) (.keep [0, 1, 5, 6, 7, 29] (.weak v39_22)))
def v39_24 : VCode := (.seq (.region false r39_15) (.keep [0, 1, 5, 6, 7] (.weak v39_23)))
def v39_25 : VCode := (.block 1 v39_24)
def r39_26 : List VOper := [
  { dst := some 20, op := .mov (.t 6) },
  { dst := some 21, op := .bin .add (.t 20) (.c (.int .i64 1)) },
  { dst := some 6, op := .mov (.t 21) }]
def v39_27 : VCode := (.post [0, 1, 5, 6] (.region false r39_26))
def v39_28 : VCode := (.seq v39_25 v39_27)
def v39_29 : VCode := (.seq v39_14 v39_28)
def v39_30 : VCode := (.loop [0, 1, 5, 6] v39_29)
def v39_31 : VCode := (.keep [0, 1, 5, 6] (.weak v39_30))
def v39_32 : VCode := (.block 0 v39_31)
def v39_33 : VCode := (.seq (.region false r39_9) (.keep [0, 1, 5, 6] (.weak v39_32)))
def r39_34 : List VOper := [
  { dst := some 36, op := .mov (.t 0) },
  { dst := some 37, op := .mov (.t 5) },
  { dst := some 38, op := .slSl (some 3) (.t 36) (some (.t 37)) none },
  { dst := none, op := .clear (some 3) (.t 38) }]
def r39_35 : List VOper := [
  { dst := some 39, op := .mov (.t 0) },
  { dst := some 40, op := .mov (.t 5) },
  { dst := some 41, op := .slSl (some 3) (.t 39) none (some (.t 40)) },
  { dst := some 4, op := .mov (.t 41) }]
def v39_36 : VCode := (.seq (.region false r39_35) (.keep [4] (.weak .ret)))
def v39_37 : VCode := (.seq (.region false r39_34) (.keep [0, 5] (.weak v39_36)))
def v39_38 : VCode := (.seq v39_33 v39_37)
def v39_39 : VCode := (.seq v39_8 v39_38)
def v39_40 : VCode := (.seq (.region false r39_2) (.keep [0, 1, 5] (.weak v39_39)))
def v39 : VCode := (.seq (.region false r39_1) (.keep [0, 1] (.weak v39_40)))
theorem hv39 : codeOf Tryd.prog Tryd.f39.ntmps v39 (Tryd.f39.body.getD .skip) = some v39 := by kernel_rfl
theorem ok39 {ds : List PV} {r : PV} {fl : Bool} (h : vwp Tryd.prog v39 (retQ [(4, none)] r fl) (initSt ds)) : CallOK Tryd.prog 39 ds r fl :=
  fn_ok Tryd.func39 rfl (by decide) hv39 rfl mixed h

/- attr_Public -/
def r22_1 : List VOper := [
  { dst := some 2, op := .mov (.c (.nilsl)) }]
def r22_2 : List VOper := [
  { dst := some 3, op := .mov (.t 0) },
  { dst := some 4, op := .call 40 [(.t 3)] },
  { dst := some 5, op := .call 39 [(.t 4), (.c (.fn 41 []))] },
  { dst := some 2, op := .mov (.t 5) }]
def v22_3 : VCode := (.seq (.region false r22_2) (.keep [2] (.weak .ret)))
def v22 : VCode := (.seq (.region false r22_1) (.keep [0] (.weak v22_3)))
theorem hv22 : codeOf Tryd.prog Tryd.f22.ntmps v22 (Tryd.f22.body.getD .skip) = some v22 := by kernel_rfl
theorem ok22 {ds : List PV} {r : PV} {fl : Bool} (h : vwp Tryd.prog v22 (retQ [(2, none)] r fl) (initSt ds)) : CallOK Tryd.prog 22 ds r fl :=
  fn_ok Tryd.func22 rfl (by decide) hv22 rfl mixed h

/- attr_Matches -/
def r20_1 : List VOper := [
  { dst := some 4, op := .mov (.c (.bool false)) }]
def r20_2 : List VOper := [
  { dst := some 9, op := .mov (.t 1) },
  { dst := some 10, op := .lenSl (.t 9) },
  { dst := some 11, op := .mov (.c (.int .i64 0)) }]
def r20_3 : List VOper := [
  { dst := some 12, op := .bin .lss (.t 11) (.t 10) }]
def v20_4 : VCode := (.keep [0, 9, 10, 11] (.weak .skip))
def v20_5 : VCode := (.keep [] (.weak (.exit 0)))
def v20_6 : VCode := (.cond (.t 12) v20_4 v20_5)
def r20_7 : List VOper := [
  { dst := some 13, op := .indexAddr (some 3) (.t 9) (.t 11) },
  { dst := some 14, op := .load (some 3) (.t 13) },
  { dst := some 6, op := .alloc (some 3) (.agg [.str [], .str [], .bool false]) },
  { dst := none, op := .store (some 3) (.t 6) (.t 14) }]
def r20_8 : List VOper := [
  { dst := some 16, op := .mov (.t 0) },
  { dst := some 17, op := .fieldAddr 0 (.t 6) },
  { dst := some 18, op := .load none (.t 17) },
  { dst := some 19, op := .call 24 [(.t 16), (.t 18)] },
  { dst := some 15, op := .mov (.t 19) },
  { dst := some 20, op := .extract (.t 15) 0 },
  { dst := some 21, op := .extract (.t 15) 1 },
  { dst := some 7, op := .mov (.t 20) },
  { dst := some 8, op := .mov (.t 21) }]
def r20_9 : List VOper := [
  { dst := some 22, op := .mov (.t 8) },
  { dst := some 23, op := .not (.t 22) },
  { dst := some 24, op := .mov (.t 23) },
  { dst := some 25, op := .fieldAddr 2 (.t 6), guard := some (24, false) },
  { dst := some 26, op := .load none (.t 25), guard := some (24, false) },
  { dst := some 27, op := .not (.t 26), guard := some (24, false) },
  { dst := some 28, op := .mov (.t 27), guard := some (24, false) },
  { dst := some 29, op := .mov (.t 7), guard := some (28, true) },
  { dst := some 30, op := .fieldAddr 1 (.t 6), guard := some (28, true) },
  { dst := some 31, op := .load none (.t 30), guard := some (28, true) },
  { dst := some 32, op := .bin .neq (.t 29) (.t 31), guard := some (28, true) },
  { dst := some 33, op := .pick (.t 28) (.t 32) (.c (.bool false)), guard := some (24, false) },
  { dst := some 34, op := .pick (.t 24) (.c (.bool true)) (.t 33) }]
def r20_10 : List VOper := [
  { dst := some 4, op := .mov (.c (.bool false)) }]
def v20_11 : VCode := (.seq (.region false r20_10) (.keep [4] (.weak .ret)))
def v20_12 : VCode := (.keep [0, 9, 10, 11] (.weak .skip))
def v20_13 : VCode := (.cond (.t 34) v20_11 v20_12)
def v20_14 : VCode := (.seq (.region false r20_9) (.keep [0, 9, 10, 11, 34] (.weak v20_13)))
def v20_15 : VCode := (.seq (.region false r20_8) (.keep [0, 6, 7, 8, 9, 10, 11] (.weak v20_14)))
def v20_16 : VCode := (.seq (.region false r20_7) (.keep [0, 6, 9, 10, 11] (.weak v20_15)))
def v20_17 : VCode := (.block 1 v20_16)
def r20_18 : List VOper := [
  { dst := some 35, op := .bin .add (.t 11) (.c (.int .i64 1)) },
  { dst := some 11, op := .mov (.t 35) }]
def v20_19 : VCode := (.post [0, 9, 10, 11] (.region false r20_18))
def v20_20 : VCode := (.seq v20_17 v20_19)
def v20_21 : VCode := (.seq v20_6 v20_20)
def v20_22 : VCode := (.seq (.region false r20_3) (.keep [0, 9, 10, 11, 12] (.weak v20_21)))
def v20_23 : VCode := (.loop [0, 9, 10, 11] v20_22)
def v20_24 : VCode := (.keep [0, 9, 10, 11] (.weak v20_23))
def v20_25 : VCode := (.block 0 v20_24)
def v20_26 : VCode := (.seq (.region false r20_2) (.keep [0, 9, 10, 11] (.weak v20_25)))
def r20_27 : List VOper := [
  { dst := some 4, op := .mov (.c (.bool true)) }]
def v20_28 : VCode := (.seq (.region false r20_27) (.keep [4] (.weak .ret)))
def v20_29 : VCode := (.seq v20_26 v20_28)
def v20 : VCode := (.seq (.region false r20_1) (.keep [0, 1] (.weak v20_29)))
theorem hv20 : codeOf Tryd.prog Tryd.f20.ntmps v20 (Tryd.f20.body.getD .skip) = some v20 := by kernel_rfl
theorem ok20 {ds : List PV} {r : PV} {fl : Bool} (h : vwp Tryd.prog v20 (retQ [(4, none)] r fl) (initSt ds)) : CallOK Tryd.prog 20 ds r fl :=
  fn_ok Tryd.func20 rfl (by decide) hv20 rfl mixed h

/- law22_awake -/
def r12_1 : List VOper := [
  { dst := some 0, op := .mov (.c (.bool false)) }]
def r12_2 : List VOper := [
  { dst := some 8, op := .call 17 [(.c (.str [117, 115, 101, 114, 61, 97, 110, 110, 32, 33, 115, 101, 99, 114, 101, 116, 61, 39, 105, 116, 39, 39, 115, 32, 109, 101, 39, 32, 100, 111, 109, 63]))] },
  { dst := some 7, op := .mov (.t 8) },
  { dst := some 9, op := .extract (.t 7) 0 },
  { dst := some 10, op := .extract (.t 7) 1 },
  { dst := some 11, op := .extract (.t 7) 2 },
  { dst := some 1, op := .mov (.t 9) },
  { dst := some 2, op := .mov (.t 10) },
  { dst := some 3, op := .mov (.t 11) }]
def r12_3 : List VOper := [
  { dst := some 12, op := .mov (.t 3) },
  { dst := some 13, op := .bin .neq (.t 12) (.c (.int .i64 0)) },
  { dst := some 14, op := .mov (.t 13) },
  { dst := some 15, op := .mov (.t 2), guard := some (14, false) },
  { dst := some 16, op := .bin .neq (.t 15) (.c (.int .i64 0)), guard := some (14, false) },
  { dst := some 17, op := .pick (.t 14) (.c (.bool true)) (.t 16) },
  { dst := some 18, op := .mov (.t 17) },
  { dst := some 19, op := .mov (.t 1), guard := some (18, false) },
  { dst := some 20, op := .lenSl (.t 19), guard := some (18, false) },
  { dst := some 21, op := .bin .neq (.t 20) (.c (.int .i64 3)), guard := some (18, false) },
  { dst := some 22, op := .pick (.t 18) (.c (.bool true)) (.t 21) },
  { dst := some 23, op := .mov (.t 22) },
  { dst := some 24, op := .mov (.t 1), guard := some (23, false) },
  { dst := some 25, op := .indexAddr (some 3) (.t 24) (.c (.int .i64 1)), guard := some (23, false) },
  { dst := some 26, op := .fieldAddr 1 (.t 25), guard := some (23, false) },
  { dst := some 27, op := .load none (.t 26), guard := some (23, false) },
  { dst := some 28, op := .bin .neq (.t 27) (.c (.str [105, 116, 39, 115, 32, 109, 101])), guard := some (23, false) },
  { dst := some 29, op := .pick (.t 23) (.c (.bool true)) (.t 28) },
  { dst := some 30, op := .mov (.t 29) },
  { dst := some 31, op := .mov (.t 1), guard := some (30, false) },
  { dst := some 32, op := .indexAddr (some 3) (.t 31) (.c (.int .i64 2)), guard := some (30, false) },
  { dst := some 33, op := .fieldAddr 2 (.t 32), guard := some (30, false) },
  { dst := some 34, op := .load none (.t 33), guard := some (30, false) },
  { dst := some 35, op := .not (.t 34), guard := some (30, false) },
  { dst := some 36, op := .pick (.t 30) (.c (.bool true)) (.t 35) }]
def r12_4 : List VOper := [
  { dst := some 0, op := .mov (.c (.bool false)) }]
def v12_5 : VCode := (.seq (.region false r12_4) (.keep [0] (.weak .ret)))
def v12_6 : VCode := (.keep [1] (.weak .skip))
def v12_7 : VCode := (.cond (.t 36) v12_5 v12_6)
def v12_8 : VCode := (.seq (.region false r12_3) (.keep [1, 36] (.weak v12_7)))
def r12_9 : List VOper := [
  { dst := some 38, op := .mov (.t 1) },
  { dst := some 39, op := .call 15 [(.t 38)] },
  { dst := some 37, op := .mov (.t 39) },
  { dst := some 40, op := .extract (.t 37) 0 },
  { dst := some 41, op := .extract (.t 37) 1 },
  { dst := some 4, op := .mov (.t 40) },
  { dst := some 3, op := .mov (.t 41) }]
def r12_10 : List VOper := [
  { dst := some 43, op := .mov (.t 1) },
  { dst := some 44, op := .call 24 [(.t 43), (.c (.str [117, 115, 101, 114]))] },
  { dst := some 42, op := .mov (.t 44) },
  { dst := some 45, op := .extract (.t 42) 0 },
  { dst := some 46, op := .extract (.t 42) 1 },
  { dst := some 5, op := .mov (.t 45) },
  { dst := some 6, op := .mov (.t 46) }]
def r12_11 : List VOper := [
  { dst := some 47, op := .mov (.t 4) },
  { dst := some 48, op := .bin .eql (.t 47) (.c (.str [117, 115, 101, 114, 61, 97, 110, 110, 32, 33, 115, 101, 99, 114, 101, 116, 61, 39, 105, 116, 39, 39, 115, 32, 109, 101, 39, 32, 100, 111, 109, 63])) },
  { dst := some 49, op := .mov (.t 48) },
  { dst := some 50, op := .mov (.t 3), guard := some (49, true) },
  { dst := some 51, op := .bin .eql (.t 50) (.c (.int .i64 0)), guard := some (49, true) },
  { dst := some 52, op := .pick (.t 49) (.t 51) (.c (.bool false)) },
  { dst := some 53, op := .mov (.t 52) },
  { dst := some 54, op := .mov (.t 5), guard := some (53, true) },
  { dst := some 55, op := .bin .eql (.t 54) (.c (.str [97, 110, 110])), guard := some (53, true) },
  { dst := some 56, op := .pick (.t 53) (.t 55) (.c (.bool false)) },
  { dst := some 57, op := .mov (.t 56) },
  { dst := some 58, op := .mov (.t 6), guard := some (57, true) },
  { dst := some 59, op := .pick (.t 57) (.t 58) (.c (.bool false)) },
  { dst := some 60, op := .mov (.t 59) },
  { dst := some 61, op := .mov (.t 1), guard := some (60, true) },
  { dst := some 62, op := .call 22 [(.t 61)], guard := some (60, true) },
  { dst := some 63, op := .lenSl (.t 62), guard := some (60, true) },
  { dst := some 64, op := .bin .eql (.t 63) (.c (.int .i64 2)), guard := some (60, true) },
  { dst := some 65, op := .pick (.t 60) (.t 64) (.c (.bool false)) },
  { dst := some 66, op := .mov (.t 65) },
  { dst := some 67, op := .mov (.t 1), guard := some (66, true) },
  { dst := some 68, op := .mov (.t 1), guard := some (66, true) },
  { dst := some 69, op := .slSl (some 3) (.t 68) none (some (.c (.int .i64 1))), guard := some (66, true) },
  { dst := some 70, op := .call 20 [(.t 67), (.t 69)], guard := some (66, true) },
  { dst := some 71, op := .pick (.t 66) (.t 70) (.c (.bool false)) },
  { dst := some 72, op := .mov (.t 71) },
  { dst := some 73, op := .mov (.t 1), guard := some (72, true) },
  { dst := some 74, op := .mov (.t 1), guard := some (72, true) },
  { dst := some 75, op := .call 20 [(.t 73), (.t 74)], guard := some (72, true) },
  { dst := some 76, op := .not (.t 75), guard := some (72, true) },
  { dst := some 77, op := .pick (.t 72) (.t 76) (.c (.bool false)) },
  { dst := some 0, op := .mov (.t 77) }]
def v12_12 : VCode := (.seq (.region false r12_11) (.keep [0] (.weak .ret)))
def v12_13 : VCode := (.seq (.region false r12_10) (.keep [1, 3, 4, 5, 6] (.weak v12_12)))
def v12_14 : VCode := (.seq (.region false r12_9) (.keep [1, 3, 4] (.weak v12_13)))
def v12_15 : VCode := (.seq v12_8 v12_14)
def v12_16 : VCode := (.seq (.region false r12_2) (.keep [1, 2, 3] (.weak v12_15)))
def v12 : VCode := (.seq (.region false r12_1) (.keep [] (.weak v12_16)))
theorem hv12 : codeOf Tryd.prog Tryd.f12.ntmps v12 (Tryd.f12.body.getD .skip) = some v12 := by kernel_rfl
theorem ok12 {ds : List PV} {r : PV} {fl : Bool} (h : vwp Tryd.prog v12 (retQ [(0, none)] r fl) (initSt ds)) : CallOK Tryd.prog 12 ds r fl :=
  fn_ok Tryd.func12 rfl (by decide) hv12 rfl mixed h

/- ref22_Secret -/
def r43_1 : List VOper := [
  { dst := some 2, op := .mov (.c (.bool false)) }]
def r43_2 : List VOper := [
  { dst := some 3, op := .mov (.t 0) },
  { dst := some 4, op := .lenStr (.t 3) },
  { dst := some 5, op := .bin .gtr (.t 4) (.c (.int .i64 0)) },
  { dst := some 6, op := .mov (.t 5) },
  { dst := some 7, op := .mov (.t 0), guard := some (6, true) },
  { dst := some 8, op := .indexStr (.t 7) (.c (.int .i64 0)), guard := some (6, true) },
  { dst := some 9, op := .bin .eql (.t 8) (.c (.int .u8 33)), guard := some (6, true) },
  { dst := some 10, op := .pick (.t 6) (.t 9) (.c (.bool false)) },
  { dst := some 2, op := .mov (.t 10) }]
def v43_3 : VCode := (.seq (.region false r43_2) (.keep [2] (.weak .ret)))
def v43 : VCode := (.seq (.region false r43_1) (.keep [0] (.weak v43_3)))
theorem hv43 : codeOf Tryd.prog Tryd.f43.ntmps v43 (Tryd.f43.body.getD .skip) = some v43 := by kernel_rfl
theorem ok43 {ds : List PV} {r : PV} {fl : Bool} (h : vwp Tryd.prog v43 (retQ [(2, none)] r fl) (initSt ds)) : CallOK Tryd.prog 43 ds r fl :=
  fn_ok Tryd.func43 rfl (by decide) hv43 rfl mixed h

/- ref22_Name -/
def r50_1 : List VOper := [
  { dst := some 2, op := .mov (.c (.bool false)) }]
def r50_2 : List VOper := [
  { dst := some 5, op := .mov (.t 0) },
  { dst := some 6, op := .call 43 [(.t 5)] }]
def r50_3 : List VOper := [
  { dst := some 7, op := .mov (.t 0) },
  { dst := some 8, op := .slStr (.t 7) (some (.c (.int .i64 1))) none },
  { dst := some 0, op := .mov (.t 8) }]
def v50_4 : VCode := (.post [0] (.region false r50_3))
def v50_5 : VCode := (.keep [0] (.weak .skip))
def v50_6 : VCode := (.cond (.t 6) v50_4 v50_5)
def v50_7 : VCode := (.seq (.region false r50_2) (.keep [0, 6] (.weak v50_6)))
def r50_8 : List VOper := [
  { dst := some 3, op := .mov (.c (.int .i64 0)) }]
def r50_9 : List VOper := [
  { dst := some 9, op := .mov (.t 3) },
  { dst := some 10, op := .mov (.t 0) },
  { dst := some 11, op := .lenStr (.t 10) },
  { dst := some 12, op := .bin .lss (.t 9) (.t 11) }]
def v50_10 : VCode := (.keep [0, 3] (.weak .skip))
def v50_11 : VCode := (.keep [0] (.weak (.exit 0)))
def v50_12 : VCode := (.cond (.t 12) v50_10 v50_11)
def v50_13 : VCode := (.seq (.region false r50_9) (.keep [0, 3, 12] (.weak v50_12)))
def r50_14 : List VOper := [
  { dst := some 15, op := .mov (.t 0) },
  { dst := some 16, op := .mov (.t 3) },
  { dst := some 17, op := .indexStr (.t 15) (.t 16) },
  { dst := some 18, op := .bin .geq (.t 17) (.c (.int .u8 97)) },
  { dst := some 19, op := .mov (.t 18) },
  { dst := some 20, op := .mov (.t 0), guard := some (19, true) },
  { dst := some 21, op := .mov (.t 3), guard := some (19, true) },
  { dst := some 22, op := .indexStr (.t 20) (.t 21), guard := some (19, true) },
  { dst := some 23, op := .bin .leq (.t 22) (.c (.int .u8 122)), guard := some (19, true) },
  { dst := some 24, op := .pick (.t 19) (.t 23) (.c (.bool false)) },
  { dst := some 4, op := .mov (.t 24) }]
def r50_15 : List VOper := [
  { dst := some 25, op := .mov (.t 4) },
  { dst := some 26, op := .not (.t 25) },
  { dst := some 27, op := .mov (.t 26) },
  { dst := some 28, op := .mov (.t 3), guard := some (27, true) },
  { dst := some 29, op := .bin .eql (.t 28) (.c (.int .i64 0)), guard := some (27, true) },
  { dst := some 30, op := .mov (.t 29), guard := some (27, true) },
  { dst := some 31, op := .mov (.t 0), guard := some (30, false) },
  { dst := some 32, op := .mov (.t 3), guard := some (30, false) },
  { dst := some 33, op := .indexStr (.t 31) (.t 32), guard := some (30, false) },
  { dst := some 34, op := .bin .geq (.t 33) (.c (.int .u8 48)), guard := some (30, false) },
  { dst := some 35, op := .mov (.t 34), guard := some (30, false) },
  { dst := some 36, op := .mov (.t 0), guard := some (35, true) },
  { dst := some 37, op := .mov (.t 3), guard := some (35, true) },
  { dst := some 38, op := .indexStr (.t 36) (.t 37), guard := some (35, true) },
  { dst := some 39, op := .bin .leq (.t 38) (.c (.int .u8 57)), guard := some (35, true) },
  { dst := some 40, op := .pick (.t 35) (.t 39) (.c (.bool false)), guard := some (30, false) },
  { dst := some 41, op := .mov (.t 40), guard := some (30, false) },
  { dst := some 42, op := .mov (.t 0), guard := some (41, false) },
  { dst := some 43, op := .mov (.t 3), guard := some (41, false) },
  { dst := some 44, op := .indexStr (.t 42) (.t 43), guard := some (41, false) },
  { dst := some 45, op := .bin .eql (.t 44) (.c (.int .u8 45)), guard := some (41, false) },
  { dst := some 46, op := .pick (.t 41) (.c (.bool true)) (.t 45), guard := some (30, false) },
  { dst := some 47, op := .mov (.t 46), guard := some (30, false) },
  { dst := some 48, op := .mov (.t 0), guard := some (47, false) },
  { dst := some 49, op := .mov (.t 3), guard := some (47, false) },
  { dst := some 50, op := .indexStr (.t 48) (.t 49), guard := some (47, false) },
  { dst := some 51, op := .bin .eql (.t 50) (.c (.int .u8 95)), guard := some (47, false) },
  { dst := some 52, op := .pick (.t 47) (.c (.bool true)) (.t 51), guard := some (30, false) },
  { dst := some 53, op := .not (.t 52), guard := some (30, false) },
  { dst := some 54, op := .pick (.t 30) (.c (.bool true)) (.t 53), guard := some (27, true) },
  { dst := some 55, op := .pick (.t 27) (.t 54) (.c (.bool false)) }]
def r50_16 : List VOper := [
  { dst := some 2, op := .mov (.c (.bool false)) }]
def v50_17 : VCode := (.seq (.region false r50_16) (.keep [2] (.weak .ret)))
def v50_18 : VCode := (.keep [0, 3] (.weak .skip))
def v50_19 : VCode := (.cond (.t 55) v50_17 v50_18)
def v50_20 : VCode := (.seq (.region false r50_15) (.keep [0, 3, 55] (.weak v50_19)))
def v50_21 : VCode := (.seq (.region false r50_14) (.keep [0, 3, 4] (.weak v50_20)))
def v50_22 : VCode := (.block 1 v50_21)
def r50_23 : List VOper := [
  { dst := some 13, op := .mov (.t 3) },
  { dst := some 14, op := .bin .add (.t 13) (.c (.int .i64 1)) },
  { dst := some 3, op := .mov (.t 14) }]
def v50_24 : VCode := (.post [0, 3] (.region false r50_23))
def v50_25 : VCode := (.seq v50_22 v50_24)
def v50_26 : VCode := (.seq v50_13 v50_25)
def v50_27 : VCode := (.loop [0, 3] v50_26)
def v50_28 : VCode := (.keep [0, 3] (.weak v50_27))
def v50_29 : VCode := (.block 0 v50_28)
def v50_30 : VCode := (.seq (.region false r50_8) (.keep [0, 3] (.weak v50_29)))
def r50_31 : List VOper := [
  { dst := some 56, op := .mov (.t 0) },
  { dst := some 57, op := .lenStr (.t 56) },
  { dst := some 58, op := .bin .geq (.t 57) (.c (.int .i64 1)) },
  { dst := some 59, op := .mov (.t 58) },
  { dst := some 60, op := .mov (.t 0), guard := some (59, true) },
  { dst := some 61, op := .lenStr (.t 60), guard := some (59, true) },
  { dst := some 62, op := .bin .leq (.t 61) (.c (.int .i64 32)), guard := some (59, true) },
  { dst := some 63, op := .pick (.t 59) (.t 62) (.c (.bool false)) },
  { dst := some 2, op := .mov (.t 63) }]
def v50_32 : VCode := (.seq (.region false r50_31) (.keep [2] (.weak .ret)))
def v50_33 : VCode := (.seq v50_30 v50_32)
def v50_34 : VCode := (.seq v50_7 v50_33)
def v50 : VCode := (.seq (.region false r50_1) (.keep [0] (.weak v50_34)))
theorem hv50 : codeOf Tryd.prog Tryd.f50.ntmps v50 (Tryd.f50.body.getD .skip) = some v50 := by kernel_rfl
theorem ok50 {ds : List PV} {r : PV} {fl : Bool} (h : vwp Tryd.prog v50 (retQ [(2, none)] r fl) (initSt ds)) : CallOK Tryd.prog 50 ds r fl :=
  fn_ok Tryd.func50 rfl (by decide) hv50 rfl mixed h

/- ref22_plain -/
def r51_1 : List VOper := [
  { dst := some 2, op := .mov (.c (.bool false)) }]
def r51_2 : List VOper := [
  { dst := some 3, op := .mov (.c (.int .i64 0)) }]
def r51_3 : List VOper := [
  { dst := some 4, op := .mov (.t 3) },
  { dst := some 5, op := .mov (.t 0) },
  { dst := some 6, op := .lenStr (.t 5) },
  { dst := some 7, op := .bin .lss (.t 4) (.t 6) }]
def v51_4 : VCode := (.keep [0, 3] (.weak .skip))
def v51_5 : VCode := (.keep [] (.weak (.exit 0)))
def v51_6 : VCode := (.cond (.t 7) v51_4 v51_5)
def v51_7 : VCode := (.seq (.region false r51_3) (.keep [0, 3, 7] (.weak v51_6)))
def r51_8 : List VOper := [
  { dst := some 10, op := .mov (.t 0) },
  { dst := some 11, op := .mov (.t 3) },
  { dst := some 12, op := .indexStr (.t 10) (.t 11) },
  { dst := some 13, op := .bin .eql (.t 12) (.c (.int .u8 0)) },
  { dst := some 14, op := .mov (.t 13) },
  { dst := some 15, op := .mov (.t 0), guard := some (14, false) },
  { dst := some 16, op := .mov (.t 3), guard := some (14, false) },
  { dst := some 17, op := .indexStr (.t 15) (.t 16), guard := some (14, false) },
  { dst := some 18, op := .bin .eql (.t 17) (.c (.int .u8 10)), guard := some (14, false) },
  { dst := some 19, op := .pick (.t 14) (.c (.bool true)) (.t 18) },
  { dst := some 20, op := .mov (.t 19) },
  { dst := some 21, op := .mov (.t 0), guard := some (20, false) },
  { dst := some 22, op := .mov (.t 3), guard := some (20, false) },
  { dst := some 23, op := .indexStr (.t 21) (.t 22), guard := some (20, false) },
  { dst := some 24, op := .bin .eql (.t 23) (.c (.int .u8 13)), guard := some (20, false) },
  { dst := some 25, op := .pick (.t 20) (.c (.bool true)) (.t 24) }]
def r51_9 : List VOper := [
  { dst := some 2, op := .mov (.c (.bool false)) }]
def v51_10 : VCode := (.seq (.region false r51_9) (.keep [2] (.weak .ret)))
def v51_11 : VCode := (.keep [0, 3] (.weak .skip))
def v51_12 : VCode := (.cond (.t 25) v51_10 v51_11)
def v51_13 : VCode := (.seq (.region false r51_8) (.keep [0, 3, 25] (.weak v51_12)))
def v51_14 : VCode := (.block 1 v51_13)
def r51_15 : List VOper := [
  { dst := some 8, op := .mov (.t 3) },
  { dst := some 9, op := .bin .add (.t 8) (.c (.int .i64 1)) },
  { dst := some 3, op := .mov (.t 9) }]
def v51_16 : VCode := (.post [0, 3] (.region false r51_15))
def v51_17 : VCode := (.seq v51_14 v51_16)
def v51_18 : VCode := (.seq v51_7 v51_17)
def v51_19 : VCode := (.loop [0, 3] v51_18)
def v51_20 : VCode := (.keep [0, 3] (.weak v51_19))
def v51_21 : VCode := (.block 0 v51_20)
def v51_22 : VCode := (.seq (.region false r51_2) (.keep [0, 3] (.weak v51_21)))
def r51_23 : List VOper := [
  { dst := some 2, op := .mov (.c (.bool true)) }]
def v51_24 : VCode := (.seq (.region false r51_23) (.keep [2] (.weak .ret)))
def v51_25 : VCode := (.seq v51_22 v51_24)
def v51 : VCode := (.seq (.region false r51_1) (.keep [0] (.weak v51_25)))
theorem hv51 : codeOf Tryd.prog Tryd.f51.ntmps v51 (Tryd.f51.body.getD .skip) = some v51 := by kernel_rfl
theorem ok51 {ds : List PV} {r : PV} {fl : Bool} (h : vwp Tryd.prog v51 (retQ [(2, none)] r fl) (initSt ds)) : CallOK Tryd.prog 51 ds r fl :=
  fn_ok Tryd.func51 rfl (by decide) hv51 rfl mixed h

/- ref22_one -/
def r31_1 : List VOper := [
  { dst := some 3, op := .box (some 3) (.t 1) },
  { dst := some 4, op := .mov (.c (.int .i64 0)) }]
def r31_2 : List VOper := [
  { dst := some 7, op := .mov (.t 0) },
  { dst := some 8, op := .lenSl (.t 7) },
  { dst := some 9, op := .bin .geq (.t 8) (.c (.int .i64 32)) },
  { dst := some 6, op := .mov (.t 9) }]
def r31_3 : List VOper := [
  { dst := some 4, op := .mov (.c (.int .i64 22)) }]
def v31_4 : VCode := (.seq (.region false r31_3) (.keep [4] (.weak .ret)))
def r31_5 : List VOper := [
  { dst := some 11, op := .fieldAddr 0 (.t 3) },
  { dst := some 12, op := .load none (.t 11) },
  { dst := some 13, op := .call 50 [(.t 12)] },
  { dst := some 14, op := .not (.t 13) },
  { dst := some 10, op := .mov (.t 14) }]
def r31_6 : List VOper := [
  { dst := some 4, op := .mov (.c (.int .i64 6)) }]
def v31_7 : VCode := (.seq (.region false r31_6) (.keep [4] (.weak .ret)))
def r31_8 : List VOper := [
  { dst := some 16, op := .fieldAddr 2 (.t 3) },
  { dst := some 17, op := .load none (.t 16) },
  { dst := some 18, op := .mov (.t 17) },
  { dst := some 19, op := .fieldAddr 1 (.t 3), guard := some (18, true) },
  { dst := some 20, op := .load none (.t 19), guard := some (18, true) },
  { dst := some 21, op := .bin .neq (.t 20) (.c (.str [])), guard := some (18, true) },
  { dst := some 22, op := .pick (.t 18) (.t 21) (.c (.bool false)) },
  { dst := some 23, op := .mov (.t 22) },
  { dst := some 24, op := .fieldAddr 1 (.t 3), guard := some (23, false) },
  { dst := some 25, op := .load none (.t 24), guard := some (23, false) },
  { dst := some 26, op := .call 51 [(.t 25)], guard := some (23, false) },
  { dst := some 27, op := .not (.t 26), guard := some (23, false) },
  { dst := some 28, op := .pick (.t 23) (.c (.bool true)) (.t 27) },
  { dst := some 15, op := .mov (.t 28) }]
def r31_9 : List VOper := [
  { dst := some 4, op := .mov (.c (.int .i64 2)) }]
def v31_10 : VCode := (.seq (.region false r31_9) (.keep [4] (.weak .ret)))
def r31_11 : List VOper := [
  { dst := some 30, op := .fieldAddr 1 (.t 3) },
  { dst := some 31, op := .load none (.t 30) },
  { dst := some 32, op := .lenStr (.t 31) },
  { dst := some 33, op := .bin .gtr (.t 32) (.c (.int .i64 1024)) },
  { dst := some 29, op := .mov (.t 33) }]
def r31_12 : List VOper := [
  { dst := some 4, op := .mov (.c (.int .i64 4)) }]
def v31_13 : VCode := (.seq (.region false r31_12) (.keep [4] (.weak .ret)))
def v31_14 : VCode := (.keep [0, 3] (.weak .skip))
def v31_15 : VCode := (.cond (.t 29) v31_13 v31_14)
def v31_16 : VCode := (.seq (.region false r31_11) (.keep [0, 3, 29] (.weak v31_15)))
def v31_17 : VCode := (.cond (.t 15) v31_10 v31_16)
def v31_18 : VCode := (.seq (.region false r31_8) (.keep [0, 3, 15] (.weak v31_17)))
def v31_19 : VCode := (.cond (.t 10) v31_7 v31_18)
def v31_20 : VCode := (.seq (.region false r31_5) (.keep [0, 3, 10] (.weak v31_19)))
def v31_21 : VCode := (.cond (.t 6) v31_4 v31_20)
def v31_22 : VCode := (.seq (.region false r31_2) (.keep [0, 3, 6] (.weak v31_21)))
def v31_23 : VCode := (.block 0 v31_22)
def r31_24 : List VOper := [
  { dst := some 5, op := .mov (.c (.int .i64 0)) }]
def r31_25 : List VOper := [
  { dst := some 34, op := .mov (.t 5) },
  { dst := some 35, op := .mov (.t 0) },
  { dst := some 36, op := .lenSl (.t 35) },
  { dst := some 37, op := .bin .lss (.t 34) (.t 36) }]
def v31_26 : VCode := (.keep [0, 3, 5] (.weak .skip))
def v31_27 : VCode := (.keep [] (.weak (.exit 1)))
def v31_28 : VCode := (.cond (.t 37) v31_26 v31_27)
def v31_29 : VCode := (.seq (.region false r31_25) (.keep [0, 3, 5, 37] (.weak v31_28)))
def r31_30 : List VOper := [
  { dst := some 40, op := .mov (.t 0) },
  { dst := some 41, op := .mov (.t 5) },
  { dst := some 42, op := .indexAddr (some 3) (.t 40) (.t 41), bef := [0, 1] },
  { dst := some 43, op := .fieldAddr 0 (.t 42), bef := [0, 1, 2] },
  { dst := some 44, op := .load none (.t 43), bef := [0, 1, 2, 3] },
  { dst := some 45, op := .fieldAddr 0 (.t 3) },
  { dst := some 46, op := .load none (.t 45), bef := [5] },
  { dst := some 47, op := .bin .eql (.t 44) (.t 46), bef := [0, 1, 2, 3, 4, 5, 6] }]
def r31_31 : List VOper := [
  { dst := some 4, op := .mov (.c (.int .i64 7)) }]
def v31_32 : VCode := (.seq (.region false r31_31) (.keep [4] (.weak .ret)))
def v31_33 : VCode := (.keep [0, 3, 5] (.weak .skip))
def v31_34 : VCode := (.cond (.t 47) v31_32 v31_33)
def v31_35 : VCode := (.seq (.region true r31_30) (.keep [0, 3, 5, 47] (.weak v31_34)))
def v31_36 : VCode := (.block 2 v31_35)
def r31_37 : List VOper := [
  { dst := some 38, op := .mov (.t 5) },
  { dst := some 39, op := .bin .add (.t 38) (.c (.int .i64 1)) },
  { dst := some 5, op := .mov (.t 39) }]
def v31_38 : VCode := (.post [0, 3, 5] (.region false r31_37))
def v31_39 : VCode := (.seq v31_36 v31_38)
def v31_40 : VCode := (.seq v31_29 v31_39)
def v31_41 : VCode := (.loop [0, 3, 5] v31_40)
def v31_42 : VCode := (.keep [0, 3, 5] (.weak v31_41))
def v31_43 : VCode := (.block 1 v31_42)
def v31_44 : VCode := (.seq (.region false r31_24) (.keep [0, 3, 5] (.weak v31_43)))
def r31_45 : List VOper := [
  { dst := some 4, op := .mov (.c (.int .i64 0)) }]
def v31_46 : VCode := (.seq (.region false r31_45) (.keep [4] (.weak .ret)))
def v31_47 : VCode := (.seq v31_44 v31_46)
def v31_48 : VCode := (.seq v31_23 v31_47)
def v31 : VCode := (.seq (.region false r31_1) (.keep [0, 3] (.weak v31_48)))
theorem hv31 : codeOf Tryd.prog Tryd.f31.ntmps v31 (Tryd.f31.body.getD .skip) = some v31 := by kernel_rfl
theorem ok31 {ds : List PV} {r : PV} {fl : Bool} (h : vwp Tryd.prog v31 (retQ [(4, none)] r fl) (initSt ds)) : CallOK Tryd.prog 31 ds r fl :=
  fn_ok Tryd.func31 rfl (by decide) hv31 rfl mixed h

/- ref22_Check -/
def r14_1 : List VOper := [
  { dst := some 2, op := .mov (.c (.int .i64 0)) }]
def r14_2 : List VOper := [
  { dst := some 3, op := .mov (.c (.int .i64 0)) }]
def r14_3 : List VOper := [
  { dst := some 5, op := .mov (.t 3) },
  { dst := some 6, op := .mov (.t 0) },
  { dst := some 7, op := .lenSl (.t 6) },
  { dst := some 8, op := .bin .lss (.t 5) (.t 7) }]
def v14_4 : VCode := (.keep [0, 3] (.weak .skip))
def v14_5 : VCode := (.keep [] (.weak (.exit 0)))
def v14_6 : VCode := (.cond (.t 8) v14_4 v14_5)
def v14_7 : VCode := (.seq (.region false r14_3) (.keep [0, 3, 8] (.weak v14_6)))
def r14_8 : List VOper := [
  { dst := some 11, op := .mov (.t 0) },
  { dst := some 12, op := .mov (.t 3) },
  { dst := some 13, op := .slSl (some 3) (.t 11) none (some (.t 12)), bef := [0, 1] },
  { dst := some 14, op := .mov (.t 0) },
  { dst := some 15, op := .mov (.t 3) },
  { dst := some 16, op := .indexAddr (some 3) (.t 14) (.t 15), bef := [3, 4] },
  { dst := some 17, op := .load (some 3) (.t 16), bef := [3, 4, 5] },
  { dst := some 18, op := .call 31 [(.t 13), (.t 17)], bef := [0, 1, 2, 3, 4, 5, 6] },
  { dst := some 4, op := .mov (.t 18), bef := [0, 1, 2, 3, 4, 5, 6, 7] }]
def r14_9 : List VOper := [
  { dst := some 19, op := .mov (.t 4) },
  { dst := some 20, op := .bin .neq (.t 19) (.c (.int .i64 0)) }]
def r14_10 : List VOper := [
  { dst := some 21, op := .mov (.t 4) },
  { dst := some 2, op := .mov (.t 21) }]
def v14_11 : VCode := (.seq (.region false r14_10) (.keep [2] (.weak .ret)))
def v14_12 : VCode := (.keep [0, 3] (.weak .skip))
def v14_13 : VCode := (.cond (.t 20) v14_11 v14_12)
def v14_14 : VCode := (.seq (.region false r14_9) (.keep [0, 3, 4, 20] (.weak v14_13)))
def v14_15 : VCode := (.seq (.region true r14_8) (.keep [0, 3, 4] (.weak v14_14)))
def v14_16 : VCode := (.block 1 v14_15)
def r14_17 : List VOper := [
  { dst := some 9, op := .mov (.t 3) },
  { dst := some 10, op := .bin .add (.t 9) (.c (.int .i64 1)) },
  { dst := some 3, op := .mov (.t 10) }]
def v14_18 : VCode := (.post [0, 3] (.region false r14_17))
def v14_19 : VCode := (.seq v14_16 v14_18)
def v14_20 : VCode := (.seq v14_7 v14_19)
def v14_21 : VCode := (.loop [0, 3] v14_20)
def v14_22 : VCode := (.keep [0, 3] (.weak v14_21))
def v14_23 : VCode := (.block 0 v14_22)
def v14_24 : VCode := (.seq (.region false r14_2) (.keep [0, 3] (.weak v14_23)))
def r14_25 : List VOper := [
  { dst := some 2, op := .mov (.c (.int .i64 0)) }]
def v14_26 : VCode := (.seq (.region false r14_25) (.keep [2] (.weak .ret)))
def v14_27 : VCode := (.seq v14_24 v14_26)
def v14 : VCode := (.seq (.region false r14_1) (.keep [0] (.weak v14_27)))
theorem hv14 : codeOf Tryd.prog Tryd.f14.ntmps v14 (Tryd.f14.body.getD .skip) = some v14 := by kernel_rfl
theorem ok14 {ds : List PV} {r : PV} {fl : Bool} (h : vwp Tryd.prog v14 (retQ [(2, none)] r fl) (initSt ds)) : CallOK Tryd.prog 14 ds r fl :=
  fn_ok Tryd.func14 rfl (by decide) hv14 rfl mixed h

/- ref22_Quote -/
def r34_1 : List VOper := [
  { dst := some 2, op := .mov (.c (.str [])) }]
def r34_2 : List VOper := [
  { dst := some 6, op := .mov (.t 0) },
  { dst := some 7, op := .bin .eql (.t 6) (.c (.str [])) },
  { dst := some 3, op := .mov (.c (.str [])) },
  { dst := some 4, op := .mov (.t 7) }]
def r34_3 : List VOper := [
  { dst := some 5, op := .mov (.c (.int .i64 0)) }]
def r34_4 : List VOper := [
  { dst := some 8, op := .mov (.t 5) },
  { dst := some 9, op := .mov (.t 0) },
  { dst := some 10, op := .lenStr (.t 9) },
  { dst := some 11, op := .bin .lss (.t 8) (.t 10) }]
def v34_5 : VCode := (.keep [0, 3, 4, 5] (.weak .skip))
def v34_6 : VCode := (.keep [0, 3, 4] (.weak (.exit 0)))
def v34_7 : VCode := (.cond (.t 11) v34_5 v34_6)
def v34_8 : VCode := (.seq (.region false r34_4) (.keep [0, 3, 4, 5, 11] (.weak v34_7)))
def r34_9 : List VOper := [
  { dst := some 14, op := .mov (.t 4) },
  { dst := some 15, op := .mov (.t 14) },
  { dst := some 16, op := .mov (.t 0), guard := some (15, false) },
  { dst := some 17, op := .mov (.t 5), guard := some (15, false) },
  { dst := some 18, op := .indexStr (.t 16) (.t 17), guard := some (15, false) },
  { dst := some 19, op := .bin .eql (.t 18) (.c (.int .u8 32)), guard := some (15, false) },
  { dst := some 20, op := .pick (.t 15) (.c (.bool true)) (.t 19) },
  { dst := some 21, op := .mov (.t 20) },
  { dst := some 22, op := .mov (.t 0), guard := some (21, false) },
  { dst := some 23, op := .mov (.t 5), guard := some (21, false) },
  { dst := some 24, op := .indexStr (.t 22) (.t 23), guard := some (21, false) },
  { dst := some 25, op := .bin .eql (.t 24) (.c (.int .u8 9)), guard := some (21, false) },
  { dst := some 26, op := .pick (.t 21) (.c (.bool true)) (.t 25) },
  { dst := some 27, op := .mov (.t 26) },
  { dst := some 28, op := .mov (.t 0), guard := some (27, false) },
  { dst := some 29, op := .mov (.t 5), guard := some (27, false) },
  { dst := some 30, op := .indexStr (.t 28) (.t 29), guard := some (27, false) },
  { dst := some 31, op := .bin .eql (.t 30) (.c (.int .u8 39)), guard := some (27, false) },
  { dst := some 32, op := .pick (.t 27) (.c (.bool true)) (.t 31) },
  { dst := some 4, op := .mov (.t 32) }]
def r34_10 : List VOper := [
  { dst := some 33, op := .mov (.t 3) },
  { dst := some 34, op := .mov (.t 0) },
  { dst := some 35, op := .mov (.t 5) },
  { dst := some 36, op := .mov (.t 5) },
  { dst := some 37, op := .bin .add (.t 36) (.c (.int .i64 1)) },
  { dst := some 38, op := .slStr (.t 34) (some (.t 35)) (some (.t 37)) },
  { dst := some 39, op := .bin .add (.t 33) (.t 38) },
  { dst := some 3, op := .mov (.t 39) }]
def r34_11 : List VOper := [
  { dst := some 40, op := .mov (.t 0) },
  { dst := some 41, op := .mov (.t 5) },
  { dst := some 42, op := .indexStr (.t 40) (.t 41) },
  { dst := some 43, op := .bin .eql (.t 42) (.c (.int .u8 39)) }]
def r34_12 : List VOper := [
  { dst := some 44, op := .mov (.t 3) },
  { dst := some 45, op := .bin .add (.t 44) (.c (.str [39])) },
  { dst := some 3, op := .mov (.t 45) }]
def v34_13 : VCode := (.post [0, 3, 4, 5] (.region false r34_12))
def v34_14 : VCode := (.keep [0, 3, 4, 5] (.weak .skip))
def v34_15 : VCode := (.cond (.t 43) v34_13 v34_14)
def v34_16 : VCode := (.seq (.region false r34_11) (.keep [0, 3, 4, 5, 43] (.weak v34_15)))
def v34_17 : VCode := (.seq (.region false r34_10) (.keep [0, 3, 4, 5] (.weak v34_16)))
def v34_18 : VCode := (.seq (.region false r34_9) (.keep [0, 3, 4, 5] (.weak v34_17)))
def v34_19 : VCode := (.block 1 v34_18)
def r34_20 : List VOper := [
  { dst := some 12, op := .mov (.t 5) },
  { dst := some 13, op := .bin .add (.t 12) (.c (.int .i64 1)) },
  { dst := some 5, op := .mov (.t 13) }]
def v34_21 : VCode := (.post [0, 3, 4, 5] (.region false r34_20))
def v34_22 : VCode := (.seq v34_19 v34_21)
def v34_23 : VCode := (.seq v34_8 v34_22)
def v34_24 : VCode := (.loop [0, 3, 4, 5] v34_23)
def v34_25 : VCode := (.keep [0, 3, 4, 5] (.weak v34_24))
def v34_26 : VCode := (.block 0 v34_25)
def v34_27 : VCode := (.seq (.region false r34_3) (.keep [0, 3, 4, 5] (.weak v34_26)))
def r34_28 : List VOper := [
  { dst := some 46, op := .mov (.t 4) }]
def r34_29 : List VOper := [
  { dst := some 47, op := .mov (.t 3) },
  { dst := some 48, op := .bin .add (.c (.str [39])) (.t 47) },
  { dst := some 49, op := .bin .add (.t 48) (.c (.str [39])) },
  { dst := some 2, op := .mov (.t 49) }]
def v34_30 : VCode := (.seq (.region false r34_29) (.keep [2] (.weak .ret)))
def v34_31 : VCode := (.keep [0] (.weak .skip))
def v34_32 : VCode := (.cond (.t 46) v34_30 v34_31)
def v34_33 : VCode := (.seq (.region false r34_28) (.keep [0, 3, 46] (.weak v34_32)))
def r34_34 : List VOper := [
  { dst := some 50, op := .mov (.t 0) },
  { dst := some 2, op := .mov (.t 50) }]
def v34_35 : VCode := (.seq (.region false r34_34) (.keep [2] (.weak .ret)))
def v34_36 : VCode := (.seq v34_33 v34_35)
def v34_37 : VCode := (.seq v34_27 v34_36)
def v34_38 : VCode := (.seq (.region false r34_2) (.keep [0, 3, 4] (.weak v34_37)))
def v34 : VCode := (.seq (.region false r34_1) (.keep [0] (.weak v34_38)))
theorem hv34 : codeOf Tryd.prog Tryd.f34.ntmps v34 (Tryd.f34.body.getD .skip) = some v34 := by kernel_rfl
theorem ok34 {ds : List PV} {r : PV} {fl : Bool} (h : vwp Tryd.prog v34 (retQ [(2, none)] r fl) (initSt ds)) : CallOK Tryd.prog 34 ds r fl :=
  fn_ok Tryd.func34 rfl (by decide) hv34 rfl mixed h

/- ref22_Print -/
def r16_1 : List VOper := [
  { dst := some 2, op := .mov (.c (.str [])) },
  { dst := some 3, op := .mov (.c (.int .i64 0)) }]
def r16_2 : List VOper := [
  { dst := some 7, op := .mov (.t 0) },
  { dst := some 8, op := .call 14 [(.t 7)] },
  { dst := some 4, op := .mov (.t 8) }]
def r16_3 : List VOper := [
  { dst := some 9, op := .mov (.t 4) },
  { dst := some 10, op := .bin .neq (.t 9) (.c (.int .i64 0)) }]
def r16_4 : List VOper := [
  { dst := some 11, op := .mov (.t 4) },
  { dst := some 2, op := .mov (.c (.str [])) },
  { dst := some 3, op := .mov (.t 11) }]
def v16_5 : VCode := (.seq (.region false r16_4) (.keep [2, 3] (.weak .ret)))
def v16_6 : VCode := (.keep [0] (.weak .skip))
def v16_7 : VCode := (.cond (.t 10) v16_5 v16_6)
def v16_8 : VCode := (.seq (.region false r16_3) (.keep [0, 4, 10] (.weak v16_7)))
def v16_9 : VCode := (.seq (.region false r16_2) (.keep [0, 4] (.weak v16_8)))
def r16_10 : List VOper := [
  { dst := some 5, op := .mov (.c (.str [])) }]
def r16_11 : List VOper := [
  { dst := some 6, op := .mov (.c (.int .i64 0)) }]
def r16_12 : List VOper := [
  { dst := some 12, op := .mov (.t 6) },
  { dst := some 13, op := .mov (.t 0) },
  { dst := some 14, op := .lenSl (.t 13) },
  { dst := some 15, op := .bin .lss (.t 12) (.t 14) }]
def v16_13 : VCode := (.keep [0, 5, 6] (.weak .skip))
def v16_14 : VCode := (.keep [5] (.weak (.exit 0)))
def v16_15 : VCode := (.cond (.t 15) v16_13 v16_14)
def v16_16 : VCode := (.seq (.region false r16_12) (.keep [0, 5, 6, 15] (.weak v16_15)))
def r16_17 : List VOper := [
  { dst := some 18, op := .mov (.t 6) },
  { dst := some 19, op := .bin .gtr (.t 18) (.c (.int .i64 0)) }]
def r16_18 : List VOper := [
  { dst := some 20, op := .mov (.t 5) },
  { dst := some 21, op := .bin .add (.t 20) (.c (.str [32])) },
  { dst := some 5, op := .mov (.t 21) }]
def v16_19 : VCode := (.post [0, 5, 6] (.region false r16_18))
def v16_20 : VCode := (.keep [0, 5, 6] (.weak .skip))
def v16_21 : VCode := (.cond (.t 19) v16_19 v16_20)
def v16_22 : VCode := (.seq (.region false r16_17) (.keep [0, 5, 6, 19] (.weak v16_21)))
def r16_23 : List VOper := [
  { dst := some 22, op := .mov (.t 0) },
  { dst := some 23, op := .mov (.t 6) },
  { dst := some 24, op := .indexAddr (some 3) (.t 22) (.t 23) },
  { dst := some 25, op := .fieldAddr 2 (.t 24) },
  { dst := some 26, op := .load none (.t 25) }]
def r16_24 : List VOper := [
  { dst := some 27, op := .mov (.t 5) },
  { dst := some 28, op := .mov (.t 0) },
  { dst := some 29, op := .mov (.t 6) },
  { dst := some 30, op := .indexAddr (some 3) (.t 28) (.t 29) },
  { dst := some 31, op := .fieldAddr 0 (.t 30) },
  { dst := some 32, op := .load none (.t 31) },
  { dst := some 33, op := .bin .add (.t 27) (.t 32) },
  { dst := some 34, op := .bin .add (.t 33) (.c (.str [63])) },
  { dst := some 5, op := .mov (.t 34) }]
def v16_25 : VCode := (.post [0, 5, 6] (.region false r16_24))
def r16_26 : List VOper := [
  { dst := some 35, op := .mov (.t 5) },
  { dst := some 36, op := .mov (.t 0) },
  { dst := some 37, op := .mov (.t 6) },
  { dst := some 38, op := .indexAddr (some 3) (.t 36) (.t 37), bef := [1, 2] },
  { dst := some 39, op := .fieldAddr 0 (.t 38), bef := [1, 2, 3] },
  { dst := some 40, op := .load none (.t 39), bef := [1, 2, 3, 4] },
  { dst := some 41, op := .bin .add (.t 35) (.t 40), bef := [0, 1, 2, 3, 4, 5] },
  { dst := some 42, op := .bin .add (.t 41) (.c (.str [61])), bef := [0, 1, 2, 3, 4, 5, 6] },
  { dst := some 43, op := .mov (.t 0) },
  { dst := some 44, op := .mov (.t 6) },
  { dst := some 45, op := .indexAddr (some 3) (.t 43) (.t 44), bef := [8, 9] },
  { dst := some 46, op := .fieldAddr 1 (.t 45), bef := [8, 9, 10] },
  { dst := some 47, op := .load none (.t 46), bef := [8, 9, 10, 11] },
  { dst := some 48, op := .call 34 [(.t 47)], bef := [8, 9, 10, 11, 12] },
  { dst := some 49, op := .bin .add (.t 42) (.t 48), bef := [0, 1, 2, 3, 4, 5, 6, 7, 8, 9, 10, 11, 12, 13] },
  { dst := some 5, op := .mov (.t 49), bef := [0, 1, 2, 3, 4, 5, 6, 7, 8, 9, 10, 11, 12, 13, 14] }]
def v16_27 : VCode := (.post [0, 5, 6] (.region true r16_26))
def v16_28 : VCode := (.cond (.t 26) v16_25 v16_27)
def v16_29 : VCode := (.seq (.region false r16_23) (.keep [0, 5, 6, 26] (.weak v16_28)))
def v16_30 : VCode := (.seq v16_22 v16_29)
def v16_31 : VCode := (.block 1 v16_30)
def r16_32 : List VOper := [
  { dst := some 16, op := .mov (.t 6) },
  { dst := some 17, op := .bin .add (.t 16) (.c (.int .i64 1)) },
  { dst := some 6, op := .mov (.t 17) }]
def v16_33 : VCode := (.post [0, 5, 6] (.region false r16_32))
def v16_34 : VCode := (.seq v16_31 v16_33)
def v16_35 : VCode := (.seq v16_16 v16_34)
def v16_36 : VCode := (.loop [0, 5, 6] v16_35)
def v16_37 : VCode := (.keep [0, 5, 6] (.weak v16_36))
def v16_38 : VCode := (.block 0 v16_37)
def v16_39 : VCode := (.seq (.region false r16_11) (.keep [0, 5, 6] (.weak v16_38)))
def r16_40 : List VOper := [
  { dst := some 50, op := .mov (.t 5) },
  { dst := some 2, op := .mov (.t 50) },
  { dst := some 3, op := .mov (.c (.int .i64 0)) }]
def v16_41 : VCode := (.seq (.region false r16_40) (.keep [2, 3] (.weak .ret)))
def v16_42 : VCode := (.seq v16_39 v16_41)
def v16_43 : VCode := (.seq (.region false r16_10) (.keep [0, 5] (.weak v16_42)))
def v16_44 : VCode := (.seq v16_9 v16_43)
def v16 : VCode := (.seq (.region false r16_1) (.keep [0] (.weak v16_44)))
theorem hv16 : codeOf Tryd.prog Tryd.f16.ntmps v16 (Tryd.f16.body.getD .skip) = some v16 := by kernel_rfl
theorem ok16 {ds : List PV} {r : PV} {fl : Bool} (h : vwp Tryd.prog v16 (retQ [(2, none), (3, none)] r fl) (initSt ds)) : CallOK Tryd.prog 16 ds r fl :=
  fn_ok Tryd.func16 rfl (by decide) hv16 rfl mixed h

/- law22_AttrPrints -/
def r4_1 : List VOper := [
  { dst := some 2, op := .mov (.c (.bool false)) }]
def r4_2 : List VOper := [
  { dst := some 7, op := .mov (.t 0) },
  { dst := some 8, op := .call 11 [(.t 7)] },
  { dst := some 9, op := .not (.t 8) }]
def r4_3 : List VOper := [
  { dst := some 10, op := .call 12 [] },
  { dst := some 2, op := .mov (.t 10) }]
def v4_4 : VCode := (.seq (.region false r4_3) (.keep [2] (.weak .ret)))
def v4_5 : VCode := (.keep [0] (.weak .skip))
def v4_6 : VCode := (.cond (.t 9) v4_4 v4_5)
def v4_7 : VCode := (.seq (.region false r4_2) (.keep [0, 9] (.weak v4_6)))
def r4_8 : List VOper := [
  { dst := some 12, op := .mov (.t 0) },
  { dst := some 13, op := .call 15 [(.t 12)] },
  { dst := some 11, op := .mov (.t 13) },
  { dst := some 14, op := .extract (.t 11) 0 },
  { dst := some 15, op := .extract (.t 11) 1 },
  { dst := some 3, op := .mov (.t 14) },
  { dst := some 4, op := .mov (.t 15) }]
def r4_9 : List VOper := [
  { dst := some 17, op := .mov (.t 0) },
  { dst := some 18, op := .call 16 [(.t 17)] },
  { dst := some 16, op := .mov (.t 18) },
  { dst := some 19, op := .extract (.t 16) 0 },
  { dst := some 20, op := .extract (.t 16) 1 },
  { dst := some 5, op := .mov (.t 19) },
  { dst := some 6, op := .mov (.t 20) }]
def r4_10 : List VOper := [
  { dst := some 21, op := .mov (.t 3) },
  { dst := some 22, op := .mov (.t 5) },
  { dst := some 23, op := .bin .eql (.t 21) (.t 22) },
  { dst := some 24, op := .mov (.t 23) },
  { dst := some 25, op := .mov (.t 4), guard := some (24, true) },
  { dst := some 26, op := .mov (.t 6), guard := some (24, true) },
  { dst := some 27, op := .bin .eql (.t 25) (.t 26), guard := some (24, true) },
  { dst := some 28, op := .pick (.t 24) (.t 27) (.c (.bool false)) },
  { dst := some 29, op := .mov (.t 28) },
  { dst := some 30, op := .call 12 [], guard := some (29, true) },
  { dst := some 31, op := .pick (.t 29) (.t 30) (.c (.bool false)) },
  { dst := some 2, op := .mov (.t 31) }]
def v4_11 : VCode := (.seq (.region false r4_10) (.keep [2] (.weak .ret)))
def v4_12 : VCode := (.seq (.region false r4_9) (.keep [3, 4, 5, 6] (.weak v4_11)))
def v4_13 : VCode := (.seq (.region false r4_8) (.keep [0, 3, 4] (.weak v4_12)))
def v4_14 : VCode := (.seq v4_7 v4_13)
def v4 : VCode := (.seq (.region false r4_1) (.keep [0] (.weak v4_14)))
theorem hv4 : codeOf Tryd.prog Tryd.f4.ntmps v4 (Tryd.f4.body.getD .skip) = some v4 := by kernel_rfl
theorem ok4 {ds : List PV} {r : PV} {fl : Bool} (h : vwp Tryd.prog v4 (retQ [(2, none)] r fl) (initSt ds)) : CallOK Tryd.prog 4 ds r fl :=
  fn_ok Tryd.func4 rfl (by decide) hv4 rfl mixed h

/- ref22_Same -/
def r19_1 : List VOper := [
  { dst := some 4, op := .mov (.c (.bool false)) }]
def r19_2 : List VOper := [
  { dst := some 6, op := .mov (.t 0) },
  { dst := some 7, op := .lenSl (.t 6) },
  { dst := some 8, op := .mov (.t 1) },
  { dst := some 9, op := .lenSl (.t 8) },
  { dst := some 10, op := .bin .neq (.t 7) (.t 9) }]
def r19_3 : List VOper := [
  { dst := some 4, op := .mov (.c (.bool false)) }]
def v19_4 : VCode := (.seq (.region false r19_3) (.keep [4] (.weak .ret)))
def v19_5 : VCode := (.keep [0, 1] (.weak .skip))
def v19_6 : VCode := (.cond (.t 10) v19_4 v19_5)
def v19_7 : VCode := (.seq (.region false r19_2) (.keep [0, 1, 10] (.weak v19_6)))
def r19_8 : List VOper := [
  { dst := some 5, op := .mov (.c (.int .i64 0)) }]
def r19_9 : List VOper := [
  { dst := some 11, op := .mov (.t 5) },
  { dst := some 12, op := .mov (.t 0) },
  { dst := some 13, op := .lenSl (.t 12) },
  { dst := some 14, op := .bin .lss (.t 11) (.t 13) }]
def v19_10 : VCode := (.keep [0, 1, 5] (.weak .skip))
def v19_11 : VCode := (.keep [] (.weak (.exit 0)))
def v19_12 : VCode := (.cond (.t 14) v19_10 v19_11)
def v19_13 : VCode := (.seq (.region false r19_9) (.keep [0, 1, 5, 14] (.weak v19_12)))
def r19_14 : List VOper := [
  { dst := some 17, op := .mov (.t 0) },
  { dst := some 18, op := .mov (.t 5) },
  { dst := some 19, op := .indexAddr (some 3) (.t 17) (.t 18), bef := [0, 1] },
  { dst := some 20, op := .load (some 3) (.t 19), bef := [0, 1, 2] },
  { dst := some 21, op := .mov (.t 1) },
  { dst := some 22, op := .mov (.t 5) },
  { dst := some 23, op := .indexAddr (some 3) (.t 21) (.t 22), bef := [4, 5] },
  { dst := some 24, op := .load (some 3) (.t 23), bef := [4, 5, 6] },
  { dst := some 25, op := .aeq true [2, 2, 0] (.t 20) (.t 24), bef := [0, 1, 2, 3, 4, 5, 6, 7] }]
def r19_15 : List VOper := [
  { dst := some 4, op := .mov (.c (.bool false)) }]
def v19_16 : VCode := (.seq (.region false r19_15) (.keep [4] (.weak .ret)))
def v19_17 : VCode := (.keep [0, 1, 5] (.weak .skip))
def v19_18 : VCode := (.cond (.t 25) v19_16 v19_17)
def v19_19 : VCode := (.seq (.region true r19_14) (.keep [0, 1, 5, 25] (.weak v19_18)))
def v19_20 : VCode := (.block 1 v19_19)
def r19_21 : List VOper := [
  { dst := some 15, op := .mov (.t 5) },
  { dst := some 16, op := .bin .add (.t 15) (.c (.int .i64 1)) },
  { dst := some 5, op := .mov (.t 16) }]
def v19_22 : VCode := (.post [0, 1, 5] (.region false r19_21))
def v19_23 : VCode := (.seq v19_20 v19_22)
def v19_24 : VCode := (.seq v19_13 v19_23)
def v19_25 : VCode := (.loop [0, 1, 5] v19_24)
def v19_26 : VCode := (.keep [0, 1, 5] (.weak v19_25))
def v19_27 : VCode := (.block 0 v19_26)
def v19_28 : VCode := (.seq (.region false r19_8) (.keep [0, 1, 5] (.weak v19_27)))
def r19_29 : List VOper := [
  { dst := some 4, op := .mov (.c (.bool true)) }]
def v19_30 : VCode := (.seq (.region false r19_29) (.keep [4] (.weak .ret)))
def v19_31 : VCode := (.seq v19_28 v19_30)
def v19_32 : VCode := (.seq v19_7 v19_31)
def v19 : VCode := (.seq (.region false r19_1) (.keep [0, 1] (.weak v19_32)))
theorem hv19 : codeOf Tryd.prog Tryd.f19.ntmps v19 (Tryd.f19.body.getD .skip) = some v19 := by kernel_rfl
theorem ok19 {ds : List PV} {r : PV} {fl : Bool} (h : vwp Tryd.prog v19 (retQ [(4, none)] r fl) (initSt ds)) : CallOK Tryd.prog 19 ds r fl :=
  fn_ok Tryd.func19 rfl (by decide) hv19 rfl mixed h

/- ref22_Find -/
def r25_1 : List VOper := [
  { dst := some 4, op := .mov (.c (.str [])) },
  { dst := some 5, op := .mov (.c (.bool false)) }]
def r25_2 : List VOper := [
  { dst := some 6, op := .mov (.c (.int .i64 0)) }]
def r25_3 : List VOper := [
  { dst := some 7, op := .mov (.t 6) },
  { dst := some 8, op := .mov (.t 0) },
  { dst := some 9, op := .lenSl (.t 8) },
  { dst := some 10, op := .bin .lss (.t 7) (.t 9) }]
def v25_4 : VCode := (.keep [0, 1, 6] (.weak .skip))
def v25_5 : VCode := (.keep [] (.weak (.exit 0)))
def v25_6 : VCode := (.cond (.t 10) v25_4 v25_5)
def v25_7 : VCode := (.seq (.region false r25_3) (.keep [0, 1, 6, 10] (.weak v25_6)))
def r25_8 : List VOper := [
  { dst := some 13, op := .mov (.t 0) },
  { dst := some 14, op := .mov (.t 6) },
  { dst := some 15, op := .indexAddr (some 3) (.t 13) (.t 14) },
  { dst := some 16, op := .fieldAddr 0 (.t 15) },
  { dst := some 17, op := .load none (.t 16) },
  { dst := some 18, op := .mov (.t 1) },
  { dst := some 19, op := .bin .eql (.t 17) (.t 18) },
  { dst := some 20, op := .mov (.t 19) },
  { dst := some 21, op := .mov (.t 0), guard := some (20, true) },
  { dst := some 22, op := .mov (.t 6), guard := some (20, true) },
  { dst := some 23, op := .indexAddr (some 3) (.t 21) (.t 22), guard := some (20, true) },
  { dst := some 24, op := .fieldAddr 2 (.t 23), guard := some (20, true) },
  { dst := some 25, op := .load none (.t 24), guard := some (20, true) },
  { dst := some 26, op := .not (.t 25), guard := some (20, true) },
  { dst := some 27, op := .pick (.t 20) (.t 26) (.c (.bool false)) }]
def r25_9 : List VOper := [
  { dst := some 28, op := .mov (.t 0) },
  { dst := some 29, op := .mov (.t 6) },
  { dst := some 30, op := .indexAddr (some 3) (.t 28) (.t 29) },
  { dst := some 31, op := .fieldAddr 1 (.t 30) },
  { dst := some 32, op := .load none (.t 31) },
  { dst := some 4, op := .mov (.t 32) },
  { dst := some 5, op := .mov (.c (.bool true)) }]
def v25_10 : VCode := (.seq (.region false r25_9) (.keep [4, 5] (.weak .ret)))
def v25_11 : VCode := (.keep [0, 1, 6] (.weak .skip))
def v25_12 : VCode := (.cond (.t 27) v25_10 v25_11)
def v25_13 : VCode := (.seq (.region false r25_8) (.keep [0, 1, 6, 27] (.weak v25_12)))
def v25_14 : VCode := (.block 1 v25_13)
def r25_15 : List VOper := [
  { dst := some 11, op := .mov (.t 6) },
  { dst := some 12, op := .bin .add (.t 11) (.c (.int .i64 1)) },
  { dst := some 6, op := .mov (.t 12) }]
def v25_16 : VCode := (.post [0, 1, 6] (.region false r25_15))
def v25_17 : VCode := (.seq v25_14 v25_16)
def v25_18 : VCode := (.seq v25_7 v25_17)
def v25_19 : VCode := (.loop [0, 1, 6] v25_18)
def v25_20 : VCode := (.keep [0, 1, 6] (.weak v25_19))
def v25_21 : VCode := (.block 0 v25_20)
def v25_22 : VCode := (.seq (.region false r25_2) (.keep [0, 1, 6] (.weak v25_21)))
def r25_23 : List VOper := [
  { dst := some 4, op := .mov (.c (.str [])) },
  { dst := some 5, op := .mov (.c (.bool false)) }]
def v25_24 : VCode := (.seq (.region false r25_23) (.keep [4, 5] (.weak .ret)))
def v25_25 : VCode := (.seq v25_22 v25_24)
def v25 : VCode := (.seq (.region false r25_1) (.keep [0, 1] (.weak v25_25)))
theorem hv25 : codeOf Tryd.prog Tryd.f25.ntmps v25 (Tryd.f25.body.getD .skip) = some v25 := by kernel_rfl
theorem ok25 {ds : List PV} {r : PV} {fl : Bool} (h : vwp Tryd.prog v25 (retQ [(4, none), (5, none)] r fl) (initSt ds)) : CallOK Tryd.prog 25 ds r fl :=
  fn_ok Tryd.func25 rfl (by decide) hv25 rfl mixed h

/- ref22_Matches -/
def r21_1 : List VOper := [
  { dst := some 4, op := .mov (.c (.bool false)) }]
def r21_2 : List VOper := [
  { dst := some 5, op := .mov (.c (.int .i64 0)) }]
def r21_3 : List VOper := [
  { dst := some 8, op := .mov (.t 5) },
  { dst := some 9, op := .mov (.t 1) },
  { dst := some 10, op := .lenSl (.t 9) },
  { dst := some 11, op := .bin .lss (.t 8) (.t 10) }]
def v21_4 : VCode := (.keep [0, 1, 5] (.weak .skip))
def v21_5 : VCode := (.keep [] (.weak (.exit 0)))
def v21_6 : VCode := (.cond (.t 11) v21_4 v21_5)
def v21_7 : VCode := (.seq (.region false r21_3) (.keep [0, 1, 5, 11] (.weak v21_6)))
def r21_8 : List VOper := [
  { dst := some 15, op := .mov (.t 0) },
  { dst := some 16, op := .mov (.t 1) },
  { dst := some 17, op := .mov (.t 5) },
  { dst := some 18, op := .indexAddr (some 3) (.t 16) (.t 17) },
  { dst := some 19, op := .fieldAddr 0 (.t 18) },
  { dst := some 20, op := .load none (.t 19) },
  { dst := some 21, op := .call 25 [(.t 15), (.t 20)] },
  { dst := some 14, op := .mov (.t 21) },
  { dst := some 22, op := .extract (.t 14) 0 },
  { dst := some 23, op := .extract (.t 14) 1 },
  { dst := some 6, op := .mov (.t 22) },
  { dst := some 7, op := .mov (.t 23) }]
def r21_9 : List VOper := [
  { dst := some 24, op := .mov (.t 7) },
  { dst := some 25, op := .not (.t 24) },
  { dst := some 26, op := .mov (.t 25) },
  { dst := some 27, op := .mov (.t 1), guard := some (26, false) },
  { dst := some 28, op := .mov (.t 5), guard := some (26, false) },
  { dst := some 29, op := .indexAddr (some 3) (.t 27) (.t 28), guard := some (26, false) },
  { dst := some 30, op := .fieldAddr 2 (.t 29), guard := some (26, false) },
  { dst := some 31, op := .load none (.t 30), guard := some (26, false) },
  { dst := some 32, op := .not (.t 31), guard := some (26, false) },
  { dst := some 33, op := .mov (.t 32), guard := some (26, false) },
  { dst := some 34, op := .mov (.t 6), guard := some (33, true) },
  { dst := some 35, op := .mov (.t 1), guard := some (33, true) },
  { dst := some 36, op := .mov (.t 5), guard := some (33, true) },
  { dst := some 37, op := .indexAddr (some 3) (.t 35) (.t 36), guard := some (33, true) },
  { dst := some 38, op := .fieldAddr 1 (.t 37), guard := some (33, true) },
  { dst := some 39, op := .load none (.t 38), guard := some (33, true) },
  { dst := some 40, op := .bin .neq (.t 34) (.t 39), guard := some (33, true) },
  { dst := some 41, op := .pick (.t 33) (.t 40) (.c (.bool false)), guard := some (26, false) },
  { dst := some 42, op := .pick (.t 26) (.c (.bool true)) (.t 41) }]
def r21_10 : List VOper := [
  { dst := some 4, op := .mov (.c (.bool false)) }]
def v21_11 : VCode := (.seq (.region false r21_10) (.keep [4] (.weak .ret)))
def v21_12 : VCode := (.keep [0, 1, 5] (.weak .skip))
def v21_13 : VCode := (.cond (.t 42) v21_11 v21_12)
def v21_14 : VCode := (.seq (.region false r21_9) (.keep [0, 1, 5, 42] (.weak v21_13)))
def v21_15 : VCode := (.seq (.region false r21_8) (.keep [0, 1, 5, 6, 7] (.weak v21_14)))
def v21_16 : VCode := (.block 1 v21_15)
def r21_17 : List VOper := [
  { dst := some 12, op := .mov (.t 5) },
  { dst := some 13, op := .bin .add (.t 12) (.c (.int .i64 1)) },
  { dst := some 5, op := .mov (.t 13) }]
def v21_18 : VCode := (.post [0, 1, 5] (.region false r21_17))
def v21_19 : VCode := (.seq v21_16 v21_18)
def v21_20 : VCode := (.seq v21_7 v21_19)
def v21_21 : VCode := (.loop [0, 1, 5] v21_20)
def v21_22 : VCode := (.keep [0, 1, 5] (.weak v21_21))
def v21_23 : VCode := (.block 0 v21_22)
def v21_24 : VCode := (.seq (.region false r21_2) (.keep [0, 1, 5] (.weak v21_23)))
def r21_25 : List VOper := [
  { dst := some 4, op := .mov (.c (.bool true)) }]
def v21_26 : VCode := (.seq (.region false r21_25) (.keep [4] (.weak .ret)))
def v21_27 : VCode := (.seq v21_24 v21_26)
def v21 : VCode := (.seq (.region false r21_1) (.keep [0, 1] (.weak v21_27)))
theorem hv21 : codeOf Tryd.prog Tryd.f21.ntmps v21 (Tryd.f21.body.getD .skip) = some v21 := by kernel_rfl
theorem ok21 {ds : List PV} {r : PV} {fl : Bool} (h : vwp Tryd.prog v21 (retQ [(4, none)] r fl) (initSt ds)) : CallOK Tryd.prog 21 ds r fl :=
  fn_ok Tryd.func21 rfl (by decide) hv21 rfl mixed h

/- ref22_Public -/
def r23_1 : List VOper := [
  { dst := some 2, op := .mov (.c (.nilsl)) }]
def r23_2 : List VOper := [
  { dst := some 3, op := .mov (.c (.nilsl)) }]
def r23_3 : List VOper := [
  { dst := some 4, op := .mov (.c (.int .i64 0)) }]
def r23_4 : List VOper := [
  { dst := some 5, op := .mov (.t 4) },
  { dst := some 6, op := .mov (.t 0) },
  { dst := some 7, op := .lenSl (.t 6) },
  { dst := some 8, op := .bin .lss (.t 5) (.t 7) }]
def v23_5 : VCode := (.keep [0, 3, 4] (.weak .skip))
def v23_6 : VCode := (.keep [3] (.weak (.exit 0)))
def v23_7 : VCode := (.cond (.t 8) v23_5 v23_6)
def v23_8 : VCode := (.seq (.region false r23_4) (.keep [0, 3, 4, 8] (.weak v23_7)))
def r23_9 : List VOper := [
  { dst := some 11, op := .mov (.t 0) },
  { dst := some 12, op := .mov (.t 4) },
  { dst := some 13, op := .indexAddr (some 3) (.t 11) (.t 12) },
  { dst := some 14, op := .fieldAddr 0 (.t 13) },
  { dst := some 15, op := .load none (.t 14) },
  { dst := some 16, op := .call 43 [(.t 15)] },
  { dst := some 17, op := .not (.t 16) }]
def r23_10 : List VOper := [
  { dst := some 18, op := .mov (.t 3) },
  { dst := some 19, op := .mov (.t 0) },
  { dst := some 20, op := .mov (.t 4) },
  { dst := some 21, op := .indexAddr (some 3) (.t 19) (.t 20) },
  { dst := some 22, op := .load (some 3) (.t 21) },
  { dst := some 23, op := .buildSlice (some 3) (.agg [.str [], .str [], .bool false]) 1 [(0, (.t 22))] },
  { dst := some 24, op := .append (some 3) 40 (.t 18) (.t 23) },
  { dst := some 3, op := .mov (.t 24) }]
def v23_11 : VCode := (.post [0, 3, 4] (.region false r23_10))
def v23_12 : VCode := (.keep [0, 3, 4] (.weak .skip))
def v23_13 : VCode := (.cond (.t 17) v23_11 v23_12)
def v23_14 : VCode := (.seq (.region false r23_9) (.keep [0, 3, 4, 17] (.weak v23_13)))
def v23_15 : VCode := (.block 1 v23_14)
def r23_16 : List VOper := [
  { dst := some 9, op := .mov (.t 4) },
  { dst := some 10, op := .bin .add (.t 9) (.c (.int .i64 1)) },
  { dst := some 4, op := .mov (.t 10) }]
def v23_17 : VCode := (.post [0, 3, 4] (.region false r23_16))
def v23_18 : VCode := (.seq v23_15 v23_17)
def v23_19 : VCode := (.seq v23_8 v23_18)
def v23_20 : VCode := (.loop [0, 3, 4] v23_19)
def v23_21 : VCode := (.keep [0, 3, 4] (.weak v23_20))
def v23_22 : VCode := (.block 0 v23_21)
def v23_23 : VCode := (.seq (.region false r23_3) (.keep [0, 3, 4] (.weak v23_22)))
def r23_24 : List VOper := [
  { dst := some 25, op := .mov (.t 3) },
  { dst := some 2, op := .mov (.t 25) }]
def v23_25 : VCode := (.seq (.region false r23_24) (.keep [2] (.weak .ret)))
def v23_26 : VCode := (.seq v23_23 v23_25)
def v23_27 : VCode := (.seq (.region false r23_2) (.keep [0, 3] (.weak v23_26)))
def v23 : VCode := (.seq (.region false r23_1) (.keep [0] (.weak v23_27)))
theorem hv23 : codeOf Tryd.prog Tryd.f23.ntmps v23 (Tryd.f23.body.getD .skip) = some v23 := by kernel_rfl
theorem ok23 {ds : List PV} {r : PV} {fl : Bool} (h : vwp Tryd.prog v23 (retQ [(2, none)] r fl) (initSt ds)) : CallOK Tryd.prog 23 ds r fl :=
  fn_ok Tryd.func23 rfl (by decide) hv23 rfl mixed h

/- law22_AttrMatches -/
def r6_1 : List VOper := [
  { dst := some 4, op := .mov (.c (.bool false)) }]
def r6_2 : List VOper := [
  { dst := some 5, op := .mov (.t 0) },
  { dst := some 6, op := .call 11 [(.t 5)] },
  { dst := some 7, op := .not (.t 6) },
  { dst := some 8, op := .mov (.t 7) },
  { dst := some 9, op := .mov (.t 1), guard := some (8, false) },
  { dst := some 10, op := .call 11 [(.t 9)], guard := some (8, false) },
  { dst := some 11, op := .not (.t 10), guard := some (8, false) },
  { dst := some 12, op := .pick (.t 8) (.c (.bool true)) (.t 11) }]
def r6_3 : List VOper := [
  { dst := some 13, op := .call 12 [] },
  { dst := some 4, op := .mov (.t 13) }]
def v6_4 : VCode := (.seq (.region false r6_3) (.keep [4] (.weak .ret)))
def v6_5 : VCode := (.keep [0, 1] (.weak .skip))
def v6_6 : VCode := (.cond (.t 12) v6_4 v6_5)
def v6_7 : VCode := (.seq (.region false r6_2) (.keep [0, 1, 12] (.weak v6_6)))
def r6_8 : List VOper := [
  { dst := some 14, op := .mov (.t 0) },
  { dst := some 15, op := .mov (.t 1) },
  { dst := some 16, op := .call 20 [(.t 14), (.t 15)] },
  { dst := some 17, op := .mov (.t 0) },
  { dst := some 18, op := .mov (.t 1) },
  { dst := some 19, op := .call 21 [(.t 17), (.t 18)] },
  { dst := some 20, op := .beq false (.t 16) (.t 19) },
  { dst := some 21, op := .mov (.t 20) },
  { dst := some 22, op := .mov (.t 0), guard := some (21, true) },
  { dst := some 23, op := .call 22 [(.t 22)], guard := some (21, true) },
  { dst := some 24, op := .mov (.t 0), guard := some (21, true) },
  { dst := some 25, op := .call 23 [(.t 24)], guard := some (21, true) },
  { dst := some 26, op := .call 19 [(.t 23), (.t 25)], guard := some (21, true) },
  { dst := some 27, op := .pick (.t 21) (.t 26) (.c (.bool false)) },
  { dst := some 28, op := .mov (.t 27) },
  { dst := some 29, op := .call 12 [], guard := some (28, true) },
  { dst := some 30, op := .pick (.t 28) (.t 29) (.c (.bool false)) },
  { dst := some 4, op := .mov (.t 30) }]
def v6_9 : VCode := (.seq (.region false r6_8) (.keep [4] (.weak .ret)))
def v6_10 : VCode := (.seq v6_7 v6_9)
def v6 : VCode := (.seq (.region false r6_1) (.keep [0, 1] (.weak v6_10)))
theorem hv6 : codeOf Tryd.prog Tryd.f6.ntmps v6 (Tryd.f6.body.getD .skip) = some v6 := by kernel_rfl
theorem ok6 {ds : List PV} {r : PV} {fl : Bool} (h : vwp Tryd.prog v6 (retQ [(4, none)] r fl) (initSt ds)) : CallOK Tryd.prog 6 ds r fl :=
  fn_ok Tryd.func6 rfl (by decide) hv6 rfl mixed h

/- law22_AttrReturns -/
def r7_1 : List VOper := [
  { dst := some 2, op := .mov (.c (.bool false)) }]
def r7_2 : List VOper := [
  { dst := some 8, op := .mov (.t 0) },
  { dst := some 9, op := .call 11 [(.t 8)] },
  { dst := some 10, op := .not (.t 9) },
  { dst := some 11, op := .mov (.t 10) },
  { dst := some 12, op := .mov (.t 0), guard := some (11, false) },
  { dst := some 13, op := .call 14 [(.t 12)], guard := some (11, false) },
  { dst := some 14, op := .bin .neq (.t 13) (.c (.int .i64 0)), guard := some (11, false) },
  { dst := some 15, op := .pick (.t 11) (.c (.bool true)) (.t 14) }]
def r7_3 : List VOper := [
  { dst := some 16, op := .call 12 [] },
  { dst := some 2, op := .mov (.t 16) }]
def v7_4 : VCode := (.seq (.region false r7_3) (.keep [2] (.weak .ret)))
def v7_5 : VCode := (.keep [0] (.weak .skip))
def v7_6 : VCode := (.cond (.t 15) v7_4 v7_5)
def v7_7 : VCode := (.seq (.region false r7_2) (.keep [0, 15] (.weak v7_6)))
def r7_8 : List VOper := [
  { dst := some 18, op := .mov (.t 0) },
  { dst := some 19, op := .call 15 [(.t 18)] },
  { dst := some 17, op := .mov (.t 19) },
  { dst := some 20, op := .extract (.t 17) 0 },
  { dst := some 21, op := .extract (.t 17) 1 },
  { dst := some 3, op := .mov (.t 20) },
  { dst := some 4, op := .mov (.t 21) }]
def r7_9 : List VOper := [
  { dst := some 23, op := .mov (.t 3) },
  { dst := some 24, op := .call 17 [(.t 23)] },
  { dst := some 22, op := .mov (.t 24) },
  { dst := some 25, op := .extract (.t 22) 0 },
  { dst := some 26, op := .extract (.t 22) 1 },
  { dst := some 27, op := .extract (.t 22) 2 },
  { dst := some 5, op := .mov (.t 25) },
  { dst := some 6, op := .mov (.t 26) },
  { dst := some 7, op := .mov (.t 27) }]
def r7_10 : List VOper := [
  { dst := some 28, op := .mov (.t 4) },
  { dst := some 29, op := .bin .eql (.t 28) (.c (.int .i64 0)) },
  { dst := some 30, op := .mov (.t 29) },
  { dst := some 31, op := .mov (.t 7), guard := some (30, true) },
  { dst := some 32, op := .bin .eql (.t 31) (.c (.int .i64 0)), guard := some (30, true) },
  { dst := some 33, op := .pick (.t 30) (.t 32) (.c (.bool false)) },
  { dst := some 34, op := .mov (.t 33) },
  { dst := some 35, op := .mov (.t 6), guard := some (34, true) },
  { dst := some 36, op := .bin .eql (.t 35) (.c (.int .i64 0)), guard := some (34, true) },
  { dst := some 37, op := .pick (.t 34) (.t 36) (.c (.bool false)) },
  { dst := some 38, op := .mov (.t 37) },
  { dst := some 39, op := .mov (.t 0), guard := some (38, true) },
  { dst := some 40, op := .mov (.t 5), guard := some (38, true) },
  { dst := some 41, op := .call 19 [(.t 39), (.t 40)], guard := some (38, true) },
  { dst := some 42, op := .pick (.t 38) (.t 41) (.c (.bool false)) },
  { dst := some 43, op := .mov (.t 42) },
  { dst := some 44, op := .call 12 [], guard := some (43, true) },
  { dst := some 45, op := .pick (.t 43) (.t 44) (.c (.bool false)) },
  { dst := some 2, op := .mov (.t 45) }]
def v7_11 : VCode := (.seq (.region false r7_10) (.keep [2] (.weak .ret)))
def v7_12 : VCode := (.seq (.region false r7_9) (.keep [0, 4, 5, 6, 7] (.weak v7_11)))
def v7_13 : VCode := (.seq (.region false r7_8) (.keep [0, 3, 4] (.weak v7_12)))
def v7_14 : VCode := (.seq v7_7 v7_13)
def v7 : VCode := (.seq (.region false r7_1) (.keep [0] (.weak v7_14)))
theorem hv7 : codeOf Tryd.prog Tryd.f7.ntmps v7 (Tryd.f7.body.getD .skip) = some v7 := by kernel_rfl
theorem ok7 {ds : List PV} {r : PV} {fl : Bool} (h : vwp Tryd.prog v7 (retQ [(2, none)] r fl) (initSt ds)) : CallOK Tryd.prog 7 ds r fl :=
  fn_ok Tryd.func7 rfl (by decide) hv7 rfl mixed h

/- law22_AttrSelects -/
def r8_1 : List VOper := [
  { dst := some 6, op := .mov (.c (.bool false)) }]
def r8_2 : List VOper := [
  { dst := some 10, op := .mov (.t 0) },
  { dst := some 11, op := .call 11 [(.t 10)] },
  { dst := some 12, op := .not (.t 11) }]
def r8_3 : List VOper := [
  { dst := some 13, op := .call 12 [] },
  { dst := some 6, op := .mov (.t 13) }]
def v8_4 : VCode := (.seq (.region false r8_3) (.keep [6] (.weak .ret)))
def v8_5 : VCode := (.keep [0, 1, 2] (.weak .skip))
def v8_6 : VCode := (.cond (.t 12) v8_4 v8_5)
def v8_7 : VCode := (.seq (.region false r8_2) (.keep [0, 1, 2, 12] (.weak v8_6)))
def r8_8 : List VOper := [
  { dst := some 14, op := .mov (.t 0) },
  { dst := some 15, op := .call 20 [(.t 14), (.c (.nilsl))] },
  { dst := some 16, op := .not (.t 15) }]
def r8_9 : List VOper := [
  { dst := some 6, op := .mov (.c (.bool false)) }]
def v8_10 : VCode := (.seq (.region false r8_9) (.keep [6] (.weak .ret)))
def v8_11 : VCode := (.keep [0, 1, 2] (.weak .skip))
def v8_12 : VCode := (.cond (.t 16) v8_10 v8_11)
def v8_13 : VCode := (.seq (.region false r8_8) (.keep [0, 1, 2, 16] (.weak v8_12)))
def r8_14 : List VOper := [
  { dst := some 17, op := .mov (.t 0) },
  { dst := some 18, op := .lenSl (.t 17) },
  { dst := some 19, op := .mov (.c (.int .i64 0)) }]
def r8_15 : List VOper := [
  { dst := some 20, op := .bin .lss (.t 19) (.t 18) }]
def v8_16 : VCode := (.keep [0, 1, 2, 18, 19] (.weak .skip))
def v8_17 : VCode := (.keep [0, 1, 2] (.weak (.exit 0)))
def v8_18 : VCode := (.cond (.t 20) v8_16 v8_17)
def r8_19 : List VOper := [
  { dst := some 21, op := .mov (.t 19) },
  { dst := some 7, op := .mov (.t 21) }]
def r8_20 : List VOper := [
  { dst := some 22, op := .mov (.t 0) },
  { dst := some 23, op := .mov (.t 7) },
  { dst := some 24, op := .indexAddr (some 3) (.t 22) (.t 23) },
  { dst := some 25, op := .fieldAddr 2 (.t 24) },
  { dst := some 26, op := .load none (.t 25) }]
def r8_21 : List VOper := [
  { dst := some 27, op := .call 12 [] },
  { dst := some 6, op := .mov (.t 27) }]
def v8_22 : VCode := (.seq (.region false r8_21) (.keep [6] (.weak .ret)))
def v8_23 : VCode := (.keep [0, 1, 2, 18, 19] (.weak .skip))
def v8_24 : VCode := (.cond (.t 26) v8_22 v8_23)
def v8_25 : VCode := (.seq (.region false r8_20) (.keep [0, 1, 2, 18, 19, 26] (.weak v8_24)))
def v8_26 : VCode := (.seq (.region false r8_19) (.keep [0, 1, 2, 7, 18, 19] (.weak v8_25)))
def v8_27 : VCode := (.block 1 v8_26)
def r8_28 : List VOper := [
  { dst := some 28, op := .bin .add (.t 19) (.c (.int .i64 1)) },
  { dst := some 19, op := .mov (.t 28) }]
def v8_29 : VCode := (.post [0, 1, 2, 18, 19] (.region false r8_28))
def v8_30 : VCode := (.seq v8_27 v8_29)
def v8_31 : VCode := (.seq v8_18 v8_30)
def v8_32 : VCode := (.seq (.region false r8_15) (.keep [0, 1, 2, 18, 19, 20] (.weak v8_31)))
def v8_33 : VCode := (.loop [0, 1, 2, 18, 19] v8_32)
def v8_34 : VCode := (.keep [0, 1, 2, 18, 19] (.weak v8_33))
def v8_35 : VCode := (.block 0 v8_34)
def v8_36 : VCode := (.seq (.region false r8_14) (.keep [0, 1, 2, 18, 19] (.weak v8_35)))
def r8_37 : List VOper := [
  { dst := some 29, op := .mov (.t 1) },
  { dst := some 30, op := .conv .i64 (.t 29) },
  { dst := some 31, op := .mov (.t 0) },
  { dst := some 32, op := .lenSl (.t 31) },
  { dst := some 33, op := .minmax false [(.t 30), (.t 32)] },
  { dst := some 34, op := .mov (.t 2) },
  { dst := some 35, op := .conv .i64 (.t 34) },
  { dst := some 36, op := .mov (.t 0) },
  { dst := some 37, op := .lenSl (.t 36) },
  { dst := some 38, op := .minmax false [(.t 35), (.t 37)] },
  { dst := some 8, op := .mov (.t 33) },
  { dst := some 9, op := .mov (.t 38) }]
def r8_38 : List VOper := [
  { dst := some 39, op := .mov (.t 0) },
  { dst := some 40, op := .call 14 [(.t 39)] },
  { dst := some 41, op := .bin .neq (.t 40) (.c (.int .i64 0)) },
  { dst := some 42, op := .mov (.t 41) },
  { dst := some 43, op := .mov (.t 8), guard := some (42, false) },
  { dst := some 44, op := .mov (.t 9), guard := some (42, false) },
  { dst := some 45, op := .bin .gtr (.t 43) (.t 44), guard := some (42, false) },
  { dst := some 46, op := .pick (.t 42) (.c (.bool true)) (.t 45) }]
def r8_39 : List VOper := [
  { dst := some 47, op := .call 12 [] },
  { dst := some 6, op := .mov (.t 47) }]
def v8_40 : VCode := (.seq (.region false r8_39) (.keep [6] (.weak .ret)))
def v8_41 : VCode := (.keep [0, 8, 9] (.weak .skip))
def v8_42 : VCode := (.cond (.t 46) v8_40 v8_41)
def v8_43 : VCode := (.seq (.region false r8_38) (.keep [0, 8, 9, 46] (.weak v8_42)))
def r8_44 : List VOper := [
  { dst := some 48, op := .mov (.t 0) },
  { dst := some 49, op := .mov (.t 0) },
  { dst := some 50, op := .mov (.t 8) },
  { dst := some 51, op := .mov (.t 9) },
  { dst := some 52, op := .slSl (some 3) (.t 49) (some (.t 50)) (some (.t 51)) },
  { dst := some 53, op := .call 20 [(.t 48), (.t 52)] },
  { dst := some 54, op := .mov (.t 53) },
  { dst := some 55, op := .call 12 [], guard := some (54, true) },
  { dst := some 56, op := .pick (.t 54) (.t 55) (.c (.bool false)) },
  { dst := some 6, op := .mov (.t 56) }]
def v8_45 : VCode := (.seq (.region false r8_44) (.keep [6] (.weak .ret)))
def v8_46 : VCode := (.seq v8_43 v8_45)
def v8_47 : VCode := (.seq (.region false r8_37) (.keep [0, 8, 9] (.weak v8_46)))
def v8_48 : VCode := (.seq v8_36 v8_47)
def v8_49 : VCode := (.seq v8_13 v8_48)
def v8_50 : VCode := (.seq v8_7 v8_49)
def v8 : VCode := (.seq (.region false r8_1) (.keep [0, 1, 2] (.weak v8_50)))
theorem hv8 : codeOf Tryd.prog Tryd.f8.ntmps v8 (Tryd.f8.body.getD .skip) = some v8 := by kernel_rfl
theorem ok8 {ds : List PV} {r : PV} {fl : Bool} (h : vwp Tryd.prog v8 (retQ [(6, none)] r fl) (initSt ds)) : CallOK Tryd.prog 8 ds r fl :=
  fn_ok Tryd.func8 rfl (by decide) hv8 rfl mixed h

/- attr_Set -/
def r26_1 : List VOper := [
  { dst := some 6, op := .mov (.c (.nilsl)) }]
def r26_2 : List VOper := [
  { dst := some 9, op := .mov (.t 0) },
  { dst := some 10, op := .call 40 [(.t 9)] },
  { dst := some 7, op := .mov (.t 10) }]
def r26_3 : List VOper := [
  { dst := some 11, op := .mov (.t 7) },
  { dst := some 12, op := .mov (.t 1) },
  { dst := some 13, op := .call 44 [(.t 11), (.t 12)] },
  { dst := some 8, op := .mov (.t 13) }]
def r26_4 : List VOper := [
  { dst := some 14, op := .mov (.t 8) },
  { dst := some 15, op := .bin .geq (.t 14) (.c (.int .i64 0)) }]
def r26_5 : List VOper := [
  { dst := some 16, op := .mov (.t 7) },
  { dst := some 17, op := .mov (.t 8) },
  { dst := some 18, op := .mov (.t 2) },
  { dst := some 19, op := .indexAddr (some 3) (.t 16) (.t 17) },
  { dst := some 20, op := .fieldAddr 1 (.t 19) },
  { dst := none, op := .store none (.t 20) (.t 18) }]
def r26_6 : List VOper := [
  { dst := some 21, op := .mov (.t 7) },
  { dst := some 6, op := .mov (.t 21) }]
def v26_7 : VCode := (.seq (.region false r26_6) (.keep [6] (.weak .ret)))
def v26_8 : VCode := (.seq (.region false r26_5) (.keep [7] (.weak v26_7)))
def v26_9 : VCode := (.keep [1, 2, 7] (.weak .skip))
def v26_10 : VCode := (.cond (.t 15) v26_8 v26_9)
def v26_11 : VCode := (.seq (.region false r26_4) (.keep [1, 2, 7, 8, 15] (.weak v26_10)))
def v26_12 : VCode := (.seq (.region false r26_3) (.keep [1, 2, 7, 8] (.weak v26_11)))
def r26_13 : List VOper := [
  { dst := some 22, op := .mov (.t 7) },
  { dst := some 23, op := .mov (.t 1) },
  { dst := some 24, op := .mov (.t 2) },
  { dst := some 25, op := .build [.str [], .str [], .bool false] [(0, 1, (.t 23)), (1, 1, (.t 24))] },
  { dst := some 26, op := .buildSlice (some 3) (.agg [.str [], .str [], .bool false]) 1 [(0, (.t 25))] },
  { dst := some 27, op := .append (some 3) 40 (.t 22) (.t 26) },
  { dst := some 6, op := .mov (.t 27) }]
def v26_14 : VCode := (.seq (.region false r26_13) (.keep [6] (.weak .ret)))
def v26_15 : VCode := (.seq v26_12 v26_14)
def v26_16 : VCode := (.seq (.region false r26_2) (.keep [1, 2, 7] (.weak v26_15)))
def v26 : VCode := (.seq (.region false r26_1) (.keep [0, 1, 2] (.weak v26_16)))
theorem hv26 : codeOf Tryd.prog Tryd.f26.ntmps v26 (Tryd.f26.body.getD .skip) = some v26 := by kernel_rfl
theorem ok26 {ds : List PV} {r : PV} {fl : Bool} (h : vwp Tryd.prog v26 (retQ [(6, none)] r fl) (initSt ds)) : CallOK Tryd.prog 26 ds r fl :=
  fn_ok Tryd.func26 rfl (by decide) hv26 rfl mixed h

/- ref22_Set -/
def r27_1 : List VOper := [
  { dst := some 6, op := .mov (.c (.nilsl)) }]
def r27_2 : List VOper := [
  { dst := some 7, op := .mov (.c (.nilsl)) }]
def r27_3 : List VOper := [
  { dst := some 8, op := .mov (.c (.bool false)) }]
def r27_4 : List VOper := [
  { dst := some 9, op := .mov (.c (.int .i64 0)) }]
def r27_5 : List VOper := [
  { dst := some 11, op := .mov (.t 9) },
  { dst := some 12, op := .mov (.t 0) },
  { dst := some 13, op := .lenSl (.t 12) },
  { dst := some 14, op := .bin .lss (.t 11) (.t 13) }]
def v27_6 : VCode := (.keep [0, 1, 2, 7, 8, 9] (.weak .skip))
def v27_7 : VCode := (.keep [1, 2, 7, 8] (.weak (.exit 0)))
def v27_8 : VCode := (.cond (.t 14) v27_6 v27_7)
def v27_9 : VCode := (.seq (.region false r27_5) (.keep [0, 1, 2, 7, 8, 9, 14] (.weak v27_8)))
def r27_10 : List VOper := [
  { dst := some 17, op := .mov (.t 0) },
  { dst := some 18, op := .mov (.t 9) },
  { dst := some 19, op := .indexAddr (some 3) (.t 17) (.t 18) },
  { dst := some 20, op := .load (some 3) (.t 19) },
  { dst := some 10, op := .alloc (some 3) (.agg [.str [], .str [], .bool false]) },
  { dst := none, op := .store (some 3) (.t 10) (.t 20) }]
def r27_11 : List VOper := [
  { dst := some 21, op := .mov (.t 8) },
  { dst := some 22, op := .not (.t 21) },
  { dst := some 23, op := .mov (.t 22) },
  { dst := some 24, op := .fieldAddr 0 (.t 10), guard := some (23, true) },
  { dst := some 25, op := .load none (.t 24), guard := some (23, true) },
  { dst := some 26, op := .mov (.t 1), guard := some (23, true) },
  { dst := some 27, op := .bin .eql (.t 25) (.t 26), guard := some (23, true) },
  { dst := some 28, op := .pick (.t 23) (.t 27) (.c (.bool false)) },
  { dst := some 29, op := .mov (.t 28) },
  { dst := some 30, op := .fieldAddr 2 (.t 10), guard := some (29, true) },
  { dst := some 31, op := .load none (.t 30), guard := some (29, true) },
  { dst := some 32, op := .not (.t 31), guard := some (29, true) },
  { dst := some 33, op := .pick (.t 29) (.t 32) (.c (.bool false)) }]
def r27_12 : List VOper := [
  { dst := some 34, op := .mov (.t 2) },
  { dst := some 35, op := .fieldAddr 1 (.t 10) },
  { dst := none, op := .store none (.t 35) (.t 34) }]
def r27_13 : List VOper := [
  { dst := some 8, op := .mov (.c (.bool true)) }]
def v27_14 : VCode := (.post [0, 1, 2, 7, 8, 9, 10] (.region false r27_13))
def v27_15 : VCode := (.seq (.region false r27_12) (.keep [0, 1, 2, 7, 9, 10] (.weak v27_14)))
def v27_16 : VCode := (.keep [0, 1, 2, 7, 8, 9, 10] (.weak .skip))
def v27_17 : VCode := (.cond (.t 33) v27_15 v27_16)
def v27_18 : VCode := (.seq (.region false r27_11) (.keep [0, 1, 2, 7, 8, 9, 10, 33] (.weak v27_17)))
def r27_19 : List VOper := [
  { dst := some 36, op := .mov (.t 7) },
  { dst := some 37, op := .load (some 3) (.t 10) },
  { dst := some 38, op := .buildSlice (some 3) (.agg [.str [], .str [], .bool false]) 1 [(0, (.t 37))] },
  { dst := some 39, op := .append (some 3) 40 (.t 36) (.t 38) },
  { dst := some 7, op := .mov (.t 39) }]
def v27_20 : VCode := (.post [0, 1, 2, 7, 8, 9] (.region false r27_19))
def v27_21 : VCode := (.seq v27_18 v27_20)
def v27_22 : VCode := (.seq (.region false r27_10) (.keep [0, 1, 2, 7, 8, 9, 10] (.weak v27_21)))
def v27_23 : VCode := (.block 1 v27_22)
def r27_24 : List VOper := [
  { dst := some 15, op := .mov (.t 9) },
  { dst := some 16, op := .bin .add (.t 15) (.c (.int .i64 1)) },
  { dst := some 9, op := .mov (.t 16) }]
def v27_25 : VCode := (.post [0, 1, 2, 7, 8, 9] (.region false r27_24))
def v27_26 : VCode := (.seq v27_23 v27_25)
def v27_27 : VCode := (.seq v27_9 v27_26)
def v27_28 : VCode := (.loop [0, 1, 2, 7, 8, 9] v27_27)
def v27_29 : VCode := (.keep [0, 1, 2, 7, 8, 9] (.weak v27_28))
def v27_30 : VCode := (.block 0 v27_29)
def v27_31 : VCode := (.seq (.region false r27_4) (.keep [0, 1, 2, 7, 8, 9] (.weak v27_30)))
def r27_32 : List VOper := [
  { dst := some 40, op := .mov (.t 8) },
  { dst := some 41, op := .not (.t 40) }]
def r27_33 : List VOper := [
  { dst := some 42, op := .mov (.t 7) },
  { dst := some 43, op := .mov (.t 1) },
  { dst := some 44, op := .mov (.t 2) },
  { dst := some 45, op := .build [.str [], .str [], .bool false] [(0, 1, (.t 43)), (1, 1, (.t 44))] },
  { dst := some 46, op := .buildSlice (some 3) (.agg [.str [], .str [], .bool false]) 1 [(0, (.t 45))] },
  { dst := some 47, op := .append (some 3) 40 (.t 42) (.t 46) },
  { dst := some 7, op := .mov (.t 47) }]
def v27_34 : VCode := (.post [7] (.region false r27_33))
def v27_35 : VCode := (.keep [7] (.weak .skip))
def v27_36 : VCode := (.cond (.t 41) v27_34 v27_35)
def v27_37 : VCode := (.seq (.region false r27_32) (.keep [1, 2, 7, 41] (.weak v27_36)))
def r27_38 : List VOper := [
  { dst := some 48, op := .mov (.t 7) },
  { dst := some 6, op := .mov (.t 48) }]
def v27_39 : VCode := (.seq (.region false r27_38) (.keep [6] (.weak .ret)))
def v27_40 : VCode := (.seq v27_37 v27_39)
def v27_41 : VCode := (.seq v27_31 v27_40)
def v27_42 : VCode := (.seq (.region false r27_3) (.keep [0, 1, 2, 7, 8] (.weak v27_41)))
def v27_43 : VCode := (.seq (.region false r27_2) (.keep [0, 1, 2, 7] (.weak v27_42)))
def v27 : VCode := (.seq (.region false r27_1) (.keep [0, 1, 2] (.weak v27_43)))
theorem hv27 : codeOf Tryd.prog Tryd.f27.ntmps v27 (Tryd.f27.body.getD .skip) = some v27 := by kernel_rfl
theorem ok27 {ds : List PV} {r : PV} {fl : Bool} (h : vwp Tryd.prog v27 (retQ [(6, none)] r fl) (initSt ds)) : CallOK Tryd.prog 27 ds r fl :=
  fn_ok Tryd.func27 rfl (by decide) hv27 rfl mixed h

/- attr_Without_1 -/
def r45_1 : List VOper := [
  { dst := some 2, op := .box (some 3) (.t 0) },
  { dst := some 3, op := .mov (.c (.bool false)) }]
def r45_2 : List VOper := [
  { dst := some 4, op := .fieldAddr 0 (.t 2) },
  { dst := some 5, op := .load none (.t 4) },
  { dst := some 6, op := .load none (.t 1) },
  { dst := some 7, op := .bin .eql (.t 5) (.t 6) },
  { dst := some 3, op := .mov (.t 7) }]
def v45_3 : VCode := (.seq (.region false r45_2) (.keep [3] (.weak .ret)))
def v45 : VCode := (.seq (.region false r45_1) (.keep [1, 2] (.weak v45_3)))
theorem hv45 : codeOf Tryd.prog Tryd.f45.ntmps v45 (Tryd.f45.body.getD .skip) = some v45 := by kernel_rfl
theorem ok45 {ds : List PV} {r : PV} {fl : Bool} (h : vwp Tryd.prog v45 (retQ [(3, none)] r fl) (initSt ds)) : CallOK Tryd.prog 45 ds r fl :=
  fn_ok Tryd.func45 rfl (by decide) hv45 rfl mixed h

/- attr_Without -/
def r28_1 : List VOper := [
  { dst := some 3, op := .box none (.t 1) },
  { dst := some 4, op := .mov (.c (.nilsl)) }]
def r28_2 : List VOper := [
  { dst := some 5, op := .mov (.t 0) },
  { dst := some 6, op := .call 40 [(.t 5)] },
  { dst := some 7, op := .mkfn 45 [(.t 3)] },
  { dst := some 8, op := .call 39 [(.t 6), (.t 7)] },
  { dst := some 4, op := .mov (.t 8) }]
def v28_3 : VCode := (.seq (.region false r28_2) (.keep [4] (.weak .ret)))
def v28 : VCode := (.seq (.region false r28_1) (.keep [0, 3] (.weak v28_3)))
theorem hv28 : codeOf Tryd.prog Tryd.f28.ntmps v28 (Tryd.f28.body.getD .skip) = some v28 := by kernel_rfl
theorem ok28 {ds : List PV} {r : PV} {fl : Bool} (h : vwp Tryd.prog v28 (retQ [(4, none)] r fl) (initSt ds)) : CallOK Tryd.prog 28 ds r fl :=
  fn_ok Tryd.func28 rfl (by decide) hv28 rfl mixed h

/- ref22_Without -/
def r29_1 : List VOper := [
  { dst := some 4, op := .mov (.c (.nilsl)) }]
def r29_2 : List VOper := [
  { dst := some 5, op := .mov (.c (.nilsl)) }]
def r29_3 : List VOper := [
  { dst := some 6, op := .mov (.c (.int .i64 0)) }]
def r29_4 : List VOper := [
  { dst := some 7, op := .mov (.t 6) },
  { dst := some 8, op := .mov (.t 0) },
  { dst := some 9, op := .lenSl (.t 8) },
  { dst := some 10, op := .bin .lss (.t 7) (.t 9) }]
def v29_5 : VCode := (.keep [0, 1, 5, 6] (.weak .skip))
def v29_6 : VCode := (.keep [5] (.weak (.exit 0)))
def v29_7 : VCode := (.cond (.t 10) v29_5 v29_6)
def v29_8 : VCode := (.seq (.region false r29_4) (.keep [0, 1, 5, 6, 10] (.weak v29_7)))
def r29_9 : List VOper := [
  { dst := some 13, op := .mov (.t 0) },
  { dst := some 14, op := .mov (.t 6) },
  { dst := some 15, op := .indexAddr (some 3) (.t 13) (.t 14) },
  { dst := some 16, op := .fieldAddr 0 (.t 15) },
  { dst := some 17, op := .load none (.t 16) },
  { dst := some 18, op := .mov (.t 1) },
  { dst := some 19, op := .bin .neq (.t 17) (.t 18) }]
def r29_10 : List VOper := [
  { dst := some 20, op := .mov (.t 5) },
  { dst := some 21, op := .mov (.t 0) },
  { dst := some 22, op := .mov (.t 6) },
  { dst := some 23, op := .indexAddr (some 3) (.t 21) (.t 22) },
  { dst := some 24, op := .load (some 3) (.t 23) },
  { dst := some 25, op := .buildSlice (some 3) (.agg [.str [], .str [], .bool false]) 1 [(0, (.t 24))] },
  { dst := some 26, op := .append (some 3) 40 (.t 20) (.t 25) },
  { dst := some 5, op := .mov (.t 26) }]
def v29_11 : VCode := (.post [0, 1, 5, 6] (.region false r29_10))
def v29_12 : VCode := (.keep [0, 1, 5, 6] (.weak .skip))
def v29_13 : VCode := (.cond (.t 19) v29_11 v29_12)
def v29_14 : VCode := (.seq (.region false r29_9) (.keep [0, 1, 5, 6, 19] (.weak v29_13)))
def v29_15 : VCode := (.block 1 v29_14)
def r29_16 : List VOper := [
  { dst := some 11, op := .mov (.t 6) },
  { dst := some 12, op := .bin .add (.t 11) (.c (.int .i64 1)) },
  { dst := some 6, op := .mov (.t 12) }]
def v29_17 : VCode := (.post [0, 1, 5, 6] (.region false r29_16))
def v29_18 : VCode := (.seq v29_15 v29_17)
def v29_19 : VCode := (.seq v29_8 v29_18)
def v29_20 : VCode := (.loop [0, 1, 5, 6] v29_19)
def v29_21 : VCode := (.keep [0, 1, 5, 6] (.weak v29_20))
def v29_22 : VCode := (.block 0 v29_21)
def v29_23 : VCode := (.seq (.region false r29_3) (.keep [0, 1, 5, 6] (.weak v29_22)))
def r29_24 : List VOper := [
  { dst := some 27, op := .mov (.t 5) },
  { dst := some 4, op := .mov (.t 27) }]
def v29_25 : VCode := (.seq (.region false r29_24) (.keep [4] (.weak .ret)))
def v29_26 : VCode := (.seq v29_23 v29_25)
def v29_27 : VCode := (.seq (.region false r29_2) (.keep [0, 1, 5] (.weak v29_26)))
def v29 : VCode := (.seq (.region false r29_1) (.keep [0, 1] (.weak v29_27)))
theorem hv29 : codeOf Tryd.prog Tryd.f29.ntmps v29 (Tryd.f29.body.getD .skip) = some v29 := by kernel_rfl
theorem ok29 {ds : List PV} {r : PV} {fl : Bool} (h : vwp Tryd.prog v29 (retQ [(4, none)] r fl) (initSt ds)) : CallOK Tryd.prog 29 ds r fl :=
  fn_ok Tryd.func29 rfl (by decide) hv29 rfl mixed h

/- law22_AttrSets -/
def r9_1 : List VOper := [
  { dst := some 6, op := .mov (.c (.bool false)) }]
def r9_2 : List VOper := [
  { dst := some 11, op := .mov (.t 0) },
  { dst := some 12, op := .call 11 [(.t 11)] },
  { dst := some 13, op := .not (.t 12) },
  { dst := some 14, op := .mov (.t 13) },
  { dst := some 15, op := .mov (.t 1), guard := some (14, false) },
  { dst := some 16, op := .lenStr (.t 15), guard := some (14, false) },
  { dst := some 17, op := .bin .gtr (.t 16) (.c (.int .i64 1100)), guard := some (14, false) },
  { dst := some 18, op := .pick (.t 14) (.c (.bool true)) (.t 17) },
  { dst := some 19, op := .mov (.t 18) },
  { dst := some 20, op := .mov (.t 2), guard := some (19, false) },
  { dst := some 21, op := .lenStr (.t 20), guard := some (19, false) },
  { dst := some 22, op := .bin .gtr (.t 21) (.c (.int .i64 1100)), guard := some (19, false) },
  { dst := some 23, op := .pick (.t 19) (.c (.bool true)) (.t 22) }]
def r9_3 : List VOper := [
  { dst := some 24, op := .call 12 [] },
  { dst := some 6, op := .mov (.t 24) }]
def v9_4 : VCode := (.seq (.region false r9_3) (.keep [6] (.weak .ret)))
def v9_5 : VCode := (.keep [0, 1, 2] (.weak .skip))
def v9_6 : VCode := (.cond (.t 23) v9_4 v9_5)
def v9_7 : VCode := (.seq (.region false r9_2) (.keep [0, 1, 2, 23] (.weak v9_6)))
def r9_8 : List VOper := [
  { dst := some 26, op := .mov (.t 0) },
  { dst := some 27, op := .mov (.t 1) },
  { dst := some 28, op := .call 24 [(.t 26), (.t 27)] },
  { dst := some 25, op := .mov (.t 28) },
  { dst := some 29, op := .extract (.t 25) 0 },
  { dst := some 30, op := .extract (.t 25) 1 },
  { dst := some 7, op := .mov (.t 29) },
  { dst := some 8, op := .mov (.t 30) }]
def r9_9 : List VOper := [
  { dst := some 32, op := .mov (.t 0) },
  { dst := some 33, op := .mov (.t 1) },
  { dst := some 34, op := .call 25 [(.t 32), (.t 33)] },
  { dst := some 31, op := .mov (.t 34) },
  { dst := some 35, op := .extract (.t 31) 0 },
  { dst := some 36, op := .extract (.t 31) 1 },
  { dst := some 9, op := .mov (.t 35) },
  { dst := some 10, op := .mov (.t 36) }]
def r9_10 : List VOper := [
  { dst := some 37, op := .mov (.t 7) },
  { dst := some 38, op := .mov (.t 9) },
  { dst := some 39, op := .bin .eql (.t 37) (.t 38) },
  { dst := some 40, op := .mov (.t 39) },
  { dst := some 41, op := .mov (.t 8), guard := some (40, true) },
  { dst := some 42, op := .mov (.t 10), guard := some (40, true) },
  { dst := some 43, op := .beq false (.t 41) (.t 42), guard := some (40, true) },
  { dst := some 44, op := .pick (.t 40) (.t 43) (.c (.bool false)) },
  { dst := some 45, op := .mov (.t 44) },
  { dst := some 46, op := .mov (.t 0), guard := some (45, true) },
  { dst := some 47, op := .mov (.t 1), guard := some (45, true) },
  { dst := some 48, op := .mov (.t 2), guard := some (45, true) },
  { dst := some 49, op := .call 26 [(.t 46), (.t 47), (.t 48)], guard := some (45, true) },
  { dst := some 50, op := .mov (.t 0), guard := some (45, true) },
  { dst := some 51, op := .mov (.t 1), guard := some (45, true) },
  { dst := some 52, op := .mov (.t 2), guard := some (45, true) },
  { dst := some 53, op := .call 27 [(.t 50), (.t 51), (.t 52)], guard := some (45, true) },
  { dst := some 54, op := .call 19 [(.t 49), (.t 53)], guard := some (45, true) },
  { dst := some 55, op := .pick (.t 45) (.t 54) (.c (.bool false)) },
  { dst := some 56, op := .mov (.t 55) },
  { dst := some 57, op := .mov (.t 0), guard := some (56, true) },
  { dst := some 58, op := .mov (.t 1), guard := some (56, true) },
  { dst := some 59, op := .call 28 [(.t 57), (.t 58)], guard := some (56, true) },
  { dst := some 60, op := .mov (.t 0), guard := some (56, true) },
  { dst := some 61, op := .mov (.t 1), guard := some (56, true) },
  { dst := some 62, op := .call 29 [(.t 60), (.t 61)], guard := some (56, true) },
  { dst := some 63, op := .call 19 [(.t 59), (.t 62)], guard := some (56, true) },
  { dst := some 64, op := .pick (.t 56) (.t 63) (.c (.bool false)) },
  { dst := some 65, op := .mov (.t 64) },
  { dst := some 66, op := .call 12 [], guard := some (65, true) },
  { dst := some 67, op := .pick (.t 65) (.t 66) (.c (.bool false)) },
  { dst := some 6, op := .mov (.t 67) }]
def v9_11 : VCode := (.seq (.region false r9_10) (.keep [6] (.weak .ret)))
def v9_12 : VCode := (.seq (.region false r9_9) (.keep [0, 1, 2, 7, 8, 9, 10] (.weak v9_11)))
def v9_13 : VCode := (.seq (.region false r9_8) (.keep [0, 1, 2, 7, 8] (.weak v9_12)))
def v9_14 : VCode := (.seq v9_7 v9_13)
def v9 : VCode := (.seq (.region false r9_1) (.keep [0, 1, 2] (.weak v9_14)))
theorem hv9 : codeOf Tryd.prog Tryd.f9.ntmps v9 (Tryd.f9.body.getD .skip) = some v9 := by kernel_rfl
theorem ok9 {ds : List PV} {r : PV} {fl : Bool} (h : vwp Tryd.prog v9 (retQ [(6, none)] r fl) (initSt ds)) : CallOK Tryd.prog 9 ds r fl :=
  fn_ok Tryd.func9 rfl (by decide) hv9 rfl mixed h

end Go.Proofs.YtjlbepebaegmeaaDoor
