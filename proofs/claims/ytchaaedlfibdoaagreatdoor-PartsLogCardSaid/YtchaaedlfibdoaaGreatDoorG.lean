import Derived.Test.YtchaaedlfibdoaaGreatDoorVmG
import Derived.Test.YtchaaedlfibdoaaGreatDoorChecked
import Derived.Test.YtchaaedlfibdoaaGreatDoorShelf
open Prod (fst)
namespace Go.Proofs.YtchaaedlfibdoaaGreatDoor
open Go.Vm
set_option maxRecDepth 100000
def tabA : Gr.TabP := Gr.tab1 94 Gr.tIndexByte (Gr.tab1 172 Gr.tIndex (Gr.tab1 170 Gr.tCount (Gr.tab1 174 Gr.tRepeat Gr.tab0)))
theorem cp5 : Gr.TabGood Tryz.prog tabA :=
 Gr.tab1_ok (Gr.g_indexByte Tryz.func94 (by kernel_rfl) (by kernel_rfl) Tryz.strings_IndexByte) (Gr.tab1_ok (Gr.g_index Tryz.func172 (by kernel_rfl) (by kernel_rfl) (g := 0) (by kernel_rfl) Tryz.strings_Index)
 (Gr.tab1_ok (Gr.g_count Tryz.func170 (by kernel_rfl) (by kernel_rfl) Tryz.strings_Count_one) (Gr.tab1_ok (Gr.g_repeat Tryz.func174 (by kernel_rfl) (by kernel_rfl) Tryz.strings_Repeat) Gr.tab0_ok)))
theorem cw3 : Gr.IdsOK Tryz.prog [137] := Gr.idsCons Tryz.func137 (by kernel_rfl) (by kernel_rfl) (by kernel_rfl) (by kernel_rfl) Gr.idsNil
theorem b59 : (Gr.rfun Tryz.prog (Gr.tabOf tabA) [137] 60 6 [] []).map fst = some (.b true) := by kernel_rfl
theorem cf1 : CallOK Tryz.prog 6 [] (.bool true) true := by
 have h := b59
 simp only [oM] at h
 obtain ⟨⟨x, h'⟩, h1, h2⟩ := h
 have h2 : x = .b true := h2
 subst h2
 exact Gr.closed_ok (q := (Tryz.f6, Tryz.f6.body.getD .skip)) (by kernel_rfl) cp5 cw3 (by kernel_rfl) h1 rfl
end Go.Proofs.YtchaaedlfibdoaaGreatDoor
