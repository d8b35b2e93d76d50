import Derived.Test.YtofpfpkjdigabaaGreatDoorVmB
import Derived.Shelf.Strings.BuilderK
import Derived.Shelf.Strings.OnBuilder
import Derived.Test.YtofpfpkjdigabaaGreatDoorProg
namespace Go.Proofs.YtofpfpkjdigabaaGreatDoor
open Go.Shelf Go.Vm
set_option autoImplicit false
set_option maxRecDepth 100000
def lr169 : Go.Shelf.Ren := ⟨fun | 169 => 69 | n => n, fun | 0 => 0 | 3 => 3 | 9 => 9 | 37 => 108 | 70 => 107 | 72 => 110 | 127 => 142 | 5 => 5 | n => n, fun | n => n⟩
theorem la169 : Go.Proofs.Lays.n169 Tryz.prog lr169 := {
  mixed := by kernel_rfl
  f169 := Tryz.func69.trans (congrArg some (by kernel_rfl))
  t0 := Tryz.underlying0
  a0 := Tryz.isAgg0
  z0 := Tryz.sizeOf0
  v0 := Tryz.zeroValue0
  t3 := Tryz.underlying3
  a3 := Tryz.isAgg3
  z3 := Tryz.sizeOf3
  v3 := Tryz.zeroValue3
  t9 := Tryz.underlying9
  a9 := Tryz.isAgg9
  z9 := Tryz.sizeOf9
  v9 := Tryz.zeroValue9
  t37 := Tryz.underlying108
  a37 := Tryz.isAgg108
  z37 := Tryz.sizeOf108
  v37 := Tryz.zeroValue108
  t70 := Tryz.underlying107
  a70 := Tryz.isAgg107
  z70 := Tryz.sizeOf107
  v70 := Tryz.zeroValue107
  t72 := Tryz.underlying110
  a72 := Tryz.isAgg110
  z72 := Tryz.sizeOf110
  v72 := Tryz.zeroValue110
  t127 := Tryz.underlying142
  a127 := Tryz.isAgg142
  z127 := Tryz.sizeOf142
  v127 := Tryz.zeroValue142 }
theorem lx169 : Go.Proofs.Builder.Extra Tryz.prog lr169 := {
  sizeBuilder := by kernel_rfl
  liesBuilder := by kernel_rfl
  t5 := Tryz.underlying5
  a5 := Tryz.isAgg5
  z5 := Tryz.sizeOf5
  v5 := Tryz.zeroValue5
  infoByte := by kernel_rfl
  cellsByte := by kernel_rfl
  sizeByte := by kernel_rfl
  neB5 := by decide }
theorem b69 (bs : List UInt8) : BuilderOK Tryz.prog 69 110 5 bs [] (.str bs) bs :=
 ok_bString Tryz.func69 (by kernel_rfl) (by kernel_rfl) (fun B b l w h hB => (Go.Proofs.Any.Builder_String_any_k la169 lx169 B b l w h hB).mono fun e w' h => h) bs
def lr166 : Go.Shelf.Ren := ⟨fun | 166 => 68 | 240 => 113 | 276 => 142 | n => n, fun | 0 => 0 | 3 => 3 | 4 => 4 | 9 => 9 | 20 => 20 | 37 => 108 | 70 => 107 | 72 => 110 | 75 => 114 | 80 => 98 | 164 => 159 | 5 => 5 | n => n, fun | n => n⟩
theorem la166 : Go.Proofs.Lays.n166 Tryz.prog lr166 := {
  mixed := by kernel_rfl
  f166 := Tryz.func68.trans (congrArg some (by kernel_rfl))
  f240 := Tryz.func113.trans (congrArg some (by kernel_rfl))
  f276 := Tryz.func142.trans (congrArg some (by kernel_rfl))
  t0 := Tryz.underlying0
  a0 := Tryz.isAgg0
  z0 := Tryz.sizeOf0
  v0 := Tryz.zeroValue0
  t3 := Tryz.underlying3
  a3 := Tryz.isAgg3
  z3 := Tryz.sizeOf3
  v3 := Tryz.zeroValue3
  t4 := Tryz.underlying4
  a4 := Tryz.isAgg4
  z4 := Tryz.sizeOf4
  v4 := Tryz.zeroValue4
  t9 := Tryz.underlying9
  a9 := Tryz.isAgg9
  z9 := Tryz.sizeOf9
  v9 := Tryz.zeroValue9
  t20 := Tryz.underlying20
  a20 := Tryz.isAgg20
  z20 := Tryz.sizeOf20
  v20 := Tryz.zeroValue20
  t37 := Tryz.underlying108
  a37 := Tryz.isAgg108
  z37 := Tryz.sizeOf108
  v37 := Tryz.zeroValue108
  t70 := Tryz.underlying107
  a70 := Tryz.isAgg107
  z70 := Tryz.sizeOf107
  v70 := Tryz.zeroValue107
  t72 := Tryz.underlying110
  a72 := Tryz.isAgg110
  z72 := Tryz.sizeOf110
  v72 := Tryz.zeroValue110
  t75 := Tryz.underlying114
  a75 := Tryz.isAgg114
  z75 := Tryz.sizeOf114
  v75 := Tryz.zeroValue114
  t164 := Tryz.underlying159
  a164 := Tryz.isAgg159
  z164 := Tryz.sizeOf159
  v164 := Tryz.zeroValue159 }
theorem lx166 : Go.Proofs.Builder.Extra Tryz.prog lr166 := {
  sizeBuilder := by kernel_rfl
  liesBuilder := by kernel_rfl
  t5 := Tryz.underlying5
  a5 := Tryz.isAgg5
  z5 := Tryz.sizeOf5
  v5 := Tryz.zeroValue5
  infoByte := by kernel_rfl
  cellsByte := by kernel_rfl
  sizeByte := by kernel_rfl
  neB5 := by decide }
theorem b68 {bs r s : List UInt8} (h : bAdd bs s = some r) : BuilderOK Tryz.prog 68 110 5 bs [.str s] (.tup [.int .i64 (s.length : Int), .niliface]) r :=
 ok_bWriteString Tryz.func68 (by kernel_rfl) (by kernel_rfl) (fun B b bs s w h hl hB => Go.Proofs.Any.Builder_WriteString_k la166 lx166 B b bs s w h hl hB) h
end Go.Proofs.YtofpfpkjdigabaaGreatDoor
