import Derived.Test.YteejnomnholelaaGreatDoorVmG
import Derived.Test.YteejnomnholelaaGreatDoorChecked
import Derived.KernelRfl
import Derived.Test.YteejnomnholelaaGreatDoorShelf
namespace Go.Proofs.YteejnomnholelaaGreatDoor
open Go.Vm
set_option autoImplicit false
set_option maxRecDepth 100000
def tabA : Gr.TabP := Gr.tab1 81 Gr.tIndexByte (Gr.tab1 171 Gr.tIndex (Gr.tab1 169 Gr.tCount (Gr.tab1 175 Gr.tRepeat Gr.tab0)))
theorem cc7 : Gr.TabGood Tryz.prog tabA :=
 Gr.tab1_ok (Gr.g_indexByte Tryz.func81 (by kernel_rfl) (by kernel_rfl) Tryz.strings_IndexByte) (Gr.tab1_ok (Gr.g_index Tryz.func171 (by kernel_rfl) (by kernel_rfl) (g := 0) (by kernel_rfl) Tryz.strings_Index)
 (Gr.tab1_ok (Gr.g_count Tryz.func169 (by kernel_rfl) (by kernel_rfl) Tryz.strings_Count_one) (Gr.tab1_ok (Gr.g_repeat Tryz.func175 (by kernel_rfl) (by kernel_rfl) Tryz.strings_Repeat) Gr.tab0_ok)))
theorem ci2 : Gr.IdsOK Tryz.prog [275] := Gr.idsCons Tryz.func275 (by kernel_rfl) (by kernel_rfl) (by kernel_rfl) (by kernel_rfl) Gr.idsNil
theorem bT6 : (Gr.rfun Tryz.prog (Gr.tabOf tabA) [275] 60 6 [] []).map Prod.fst = some (.b true) := by kernel_rfl
theorem b28 : CallOK Tryz.prog 6 [] (.bool true) true := by
 have h := bT6
 simp only [Option.map_eq_some_iff] at h
 obtain ⟨⟨x, h'⟩, h1, h2⟩ := h
 have h2 : x = .b true := h2
 subst h2
 exact Gr.closed_ok (q := (Tryz.f6, Tryz.f6.body.getD .skip)) (by kernel_rfl) cc7 ci2 (by kernel_rfl) h1 rfl
end Go.Proofs.YteejnomnholelaaGreatDoor
