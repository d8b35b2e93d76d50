import Derived.Test.YtpnaccnofbkhiaaGreatDoorVmG
import Derived.Test.YtpnaccnofbkhiaaGreatDoorChecked
import Derived.KernelRfl
import Derived.Test.YtpnaccnofbkhiaaGreatDoorShelf
namespace Go.Proofs.YtpnaccnofbkhiaaGreatDoor
open Go.Vm
set_option autoImplicit false
set_option maxRecDepth 100000
def tabA : Gr.TabP := Gr.tab1 88 Gr.tIndexByte (Gr.tab1 159 Gr.tIndex (Gr.tab1 157 Gr.tCount (Gr.tab1 163 Gr.tRepeat Gr.tab0)))
theorem ca2 : Gr.TabGood Tryz.prog tabA :=
 Gr.tab1_ok (Gr.g_indexByte Tryz.func88 (by kernel_rfl) (by kernel_rfl) Tryz.strings_IndexByte) (Gr.tab1_ok (Gr.g_index Tryz.func159 (by kernel_rfl) (by kernel_rfl) (g := 0) (by kernel_rfl) Tryz.strings_Index)
 (Gr.tab1_ok (Gr.g_count Tryz.func157 (by kernel_rfl) (by kernel_rfl) Tryz.strings_Count_one) (Gr.tab1_ok (Gr.g_repeat Tryz.func163 (by kernel_rfl) (by kernel_rfl) Tryz.strings_Repeat) Gr.tab0_ok)))
theorem cg6 : Gr.IdsOK Tryz.prog [251] := Gr.idsCons Tryz.func251 (by kernel_rfl) (by kernel_rfl) (by kernel_rfl) (by kernel_rfl) Gr.idsNil
theorem bQ4 : (Gr.rfun Tryz.prog (Gr.tabOf tabA) [251] 60 6 [] []).map Prod.fst = some (.b true) := by kernel_rfl
theorem bZ8 : CallOK Tryz.prog 6 [] (.bool true) true := by
 have h := bQ4
 simp only [Option.map_eq_some_iff] at h
 obtain ⟨⟨x, h'⟩, h1, h2⟩ := h
 have h2 : x = .b true := h2
 subst h2
 exact Gr.closed_ok (q := (Tryz.f6, Tryz.f6.body.getD .skip)) (by kernel_rfl) ca2 cg6 (by kernel_rfl) h1 rfl
end Go.Proofs.YtpnaccnofbkhiaaGreatDoor
