import Derived.Test.YtkcnhmohphapfaaGreatDoorVmG
import Derived.Test.YtkcnhmohphapfaaGreatDoorChecked
import Derived.KernelRfl
import Derived.Test.YtkcnhmohphapfaaGreatDoorShelf
namespace Go.Proofs.YtkcnhmohphapfaaGreatDoor
open Go.Vm
set_option autoImplicit false
set_option maxRecDepth 100000
def tabA : Gr.TabP := Gr.tab1 82 Gr.tIndexByte (Gr.tab1 132 Gr.tIndex (Gr.tab1 152 Gr.tCount (Gr.tab1 155 Gr.tRepeat Gr.tab0)))
theorem bQ1 : Gr.TabGood Tryz.prog tabA :=
 Gr.tab1_ok (Gr.g_indexByte Tryz.func82 (by kernel_rfl) (by kernel_rfl) Tryz.strings_IndexByte) (Gr.tab1_ok (Gr.g_index Tryz.func132 (by kernel_rfl) (by kernel_rfl) (g := 0) (by kernel_rfl) Tryz.strings_Index)
 (Gr.tab1_ok (Gr.g_count Tryz.func152 (by kernel_rfl) (by kernel_rfl) Tryz.strings_Count_one) (Gr.tab1_ok (Gr.g_repeat Tryz.func155 (by kernel_rfl) (by kernel_rfl) Tryz.strings_Repeat) Gr.tab0_ok)))
theorem bU5 : Gr.IdsOK Tryz.prog [190] := Gr.idsCons Tryz.func190 (by kernel_rfl) (by kernel_rfl) (by kernel_rfl) (by kernel_rfl) Gr.idsNil
theorem bz9 : (Gr.rfun Tryz.prog (Gr.tabOf tabA) [190] 60 4 [] []).map Prod.fst = some (.b true) := by kernel_rfl
theorem bI6 : CallOK Tryz.prog 4 [] (.bool true) true := by
 have h := bz9
 simp only [Option.map_eq_some_iff] at h
 obtain ⟨⟨x, h'⟩, h1, h2⟩ := h
 have h2 : x = .b true := h2
 subst h2
 exact Gr.closed_ok (q := (Tryz.f4, Tryz.f4.body.getD .skip)) (by kernel_rfl) bQ1 bU5 (by kernel_rfl) h1 rfl
end Go.Proofs.YtkcnhmohphapfaaGreatDoor
