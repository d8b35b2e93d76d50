import Derived.Test.YtgmlbldjdhonjaaDoorPG
import Derived.Test.YtgmlbldjdhonjaaDoorVmI
import Derived.Lib.ItoaLen
namespace Go.Proofs.YtgmlbldjdhonjaaDoor
open Go.Vm
set_option autoImplicit false
set_option linter.unusedVariables false
set_option linter.unusedSimpArgs false
set_option maxRecDepth 100000
theorem num_Text_eq {n : Int} (h0 : -9223372036854775808 ≤ n) (h1 : n ≤ 9223372036854775807) : num_Text n 10 = some (Go.Lib.itoa n) := by
 unfold num_Text num_known strconv_FormatInt xFormatInt
 rw [if_pos ⟨rfl, h0, h1⟩]; rfl
theorem itoa_len {n : Int} (h0 : -9223372036854775808 ≤ n) (h1 : n ≤ 9223372036854775807) : (Go.Lib.itoa n).length ≤ 21 := Go.Lib.itoa_length_le n h0 h1
end Go.Proofs.YtgmlbldjdhonjaaDoor
