/- The methods of strings.Builder at this program, as contracts. -/
import Derived.Test.YtphblddgbbgdnaaDoorVmB
import Derived.Shelf.Strings.BuilderK
import Derived.Shelf.Strings.OnBuilder
import Derived.Test.YtphblddgbbgdnaaDoorProg
namespace Go.Proofs.YtphblddgbbgdnaaDoor
open Go.Shelf Go.Vm
set_option autoImplicit false
set_option maxRecDepth 100000
def lr169 : Go.Shelf.Ren := ⟨fun | 169 => 59 | n => n, fun | 0 => 0 | 3 => 3 | 9 => 9 | 37 => 74 | 70 => 73 | 72 => 76 | 127 => 100 | 5 => 5 | n => n, fun | n => n⟩
theorem la169 : Go.Proofs.Lays.n169 Tryd.prog lr169 := {
  mixed := by kernel_rfl
  f169 := Tryd.func59.trans (congrArg some (by kernel_rfl))
  t0 := Tryd.underlying0
  a0 := Tryd.isAgg0
  z0 := Tryd.sizeOf0
  v0 := Tryd.zeroValue0
  t3 := Tryd.underlying3
  a3 := Tryd.isAgg3
  z3 := Tryd.sizeOf3
  v3 := Tryd.zeroValue3
  t9 := Tryd.underlying9
  a9 := Tryd.isAgg9
  z9 := Tryd.sizeOf9
  v9 := Tryd.zeroValue9
  t37 := Tryd.underlying74
  a37 := Tryd.isAgg74
  z37 := Tryd.sizeOf74
  v37 := Tryd.zeroValue74
  t70 := Tryd.underlying73
  a70 := Tryd.isAgg73
  z70 := Tryd.sizeOf73
  v70 := Tryd.zeroValue73
  t72 := Tryd.underlying76
  a72 := Tryd.isAgg76
  z72 := Tryd.sizeOf76
  v72 := Tryd.zeroValue76
  t127 := Tryd.underlying100
  a127 := Tryd.isAgg100
  z127 := Tryd.sizeOf100
  v127 := Tryd.zeroValue100 }
theorem lx169 : Go.Proofs.Builder.Extra Tryd.prog lr169 := {
  sizeBuilder := by kernel_rfl
  liesBuilder := by kernel_rfl
  t5 := Tryd.underlying5
  a5 := Tryd.isAgg5
  z5 := Tryd.sizeOf5
  v5 := Tryd.zeroValue5
  infoByte := by kernel_rfl
  cellsByte := by kernel_rfl
  sizeByte := by kernel_rfl
  neB5 := by decide }
theorem b59 (bs : List UInt8) : BuilderOK Tryd.prog 59 76 5 bs [] (.str bs) bs :=
  ok_bString Tryd.func59 (by kernel_rfl) (by kernel_rfl) (fun B b l w h hB => (Go.Proofs.Any.Builder_String_any_k la169 lx169 B b l w h hB).mono fun e w' h => h) bs
def lr167 : Go.Shelf.Ren := ⟨fun | 167 => 130 | 240 => 84 | 276 => 107 | n => n, fun | 0 => 0 | 4 => 4 | 5 => 5 | 9 => 9 | 20 => 20 | 37 => 74 | 70 => 73 | 72 => 76 | 75 => 79 | 80 => 82 | 164 => 115 | n => n, fun | n => n⟩
theorem la167 : Go.Proofs.Lays.n167 Tryd.prog lr167 := {
  mixed := by kernel_rfl
  f167 := Tryd.func130.trans (congrArg some (by kernel_rfl))
  f240 := Tryd.func84.trans (congrArg some (by kernel_rfl))
  f276 := Tryd.func107.trans (congrArg some (by kernel_rfl))
  t0 := Tryd.underlying0
  a0 := Tryd.isAgg0
  z0 := Tryd.sizeOf0
  v0 := Tryd.zeroValue0
  t4 := Tryd.underlying4
  a4 := Tryd.isAgg4
  z4 := Tryd.sizeOf4
  v4 := Tryd.zeroValue4
  t5 := Tryd.underlying5
  a5 := Tryd.isAgg5
  z5 := Tryd.sizeOf5
  v5 := Tryd.zeroValue5
  t9 := Tryd.underlying9
  a9 := Tryd.isAgg9
  z9 := Tryd.sizeOf9
  v9 := Tryd.zeroValue9
  t20 := Tryd.underlying20
  a20 := Tryd.isAgg20
  z20 := Tryd.sizeOf20
  v20 := Tryd.zeroValue20
  t37 := Tryd.underlying74
  a37 := Tryd.isAgg74
  z37 := Tryd.sizeOf74
  v37 := Tryd.zeroValue74
  t70 := Tryd.underlying73
  a70 := Tryd.isAgg73
  z70 := Tryd.sizeOf73
  v70 := Tryd.zeroValue73
  t72 := Tryd.underlying76
  a72 := Tryd.isAgg76
  z72 := Tryd.sizeOf76
  v72 := Tryd.zeroValue76
  t75 := Tryd.underlying79
  a75 := Tryd.isAgg79
  z75 := Tryd.sizeOf79
  v75 := Tryd.zeroValue79
  t164 := Tryd.underlying115
  a164 := Tryd.isAgg115
  z164 := Tryd.sizeOf115
  v164 := Tryd.zeroValue115 }
theorem lx167 : Go.Proofs.Builder.Extra Tryd.prog lr167 := {
  sizeBuilder := by kernel_rfl
  liesBuilder := by kernel_rfl
  t5 := Tryd.underlying5
  a5 := Tryd.isAgg5
  z5 := Tryd.sizeOf5
  v5 := Tryd.zeroValue5
  infoByte := by kernel_rfl
  cellsByte := by kernel_rfl
  sizeByte := by kernel_rfl
  neB5 := by decide }
theorem b130 {bs r : List UInt8} {c : UInt8} (h : bAdd bs [c] = some r) : BuilderOK Tryd.prog 130 76 5 bs [.int .u8 (c.toNat : Int)] .niliface r :=
  ok_bWriteByte Tryd.func130 (by kernel_rfl) (by kernel_rfl) (fun B b bs c w h hl hB => Go.Proofs.Any.Builder_WriteByte_k la167 lx167 B b bs c w h hl hB) h
end Go.Proofs.YtphblddgbbgdnaaDoor
