/- The statement Rows.QuotaLessSaid: for every input that the row admits, the Go function QuotaLess returns true, does not panic, and leaves its arguments as they were. No condition is added. -/
import Derived.Test.YtpmkdmgmnljlmaaC1
import Derived.Test.YtpmkdmgmnljlmaaR
import Derived.Test.YtpmkdmgmnljlmaaP
import Derived.Test.YtpmkdmgmnljlmaaRows
namespace Go.Proofs.Ytpmkdmgmnljlmaa
open Go.Vm
open Go.ChangeShapes Go.WideShapes Go.ChangeAt Go.RowKit
set_option autoImplicit false

theorem QuotaLess_own : ownKnob Try.prog.godebug = none := by kernel_rfl
theorem QuotaLess_laidOut : laidOutB Try.prog = true := by kernel_rfl
theorem QuotaLess_contract (qs : List PV) (h : HasArgs [(.sl ty_api_Quota), ty_api_Tree, ty_law12_Ask_law12_Ask] qs) : CallOK Try.prog 5 qs (.bool true) true := by
  obtain ⟨l, t_, x_, rfl, w0, w1, w2⟩ := args5 h
  exact c5 (law12_QuotaLess_true l t_ x_ w0 w1 w2)

set_option maxRecDepth 100000 in
theorem QuotaLess_lifted (os : Os) (started : os.Started) (H : Type) (enc : TypeId × Value → H) :
    ReturnsInHanded {} Try.checked os 5 .any (Rows.quotaLessSpec.pre6 enc Try.prog Try.f5 Rows.quotaLessRow.domain false) (Rows.quotaLessSpec.post enc Try.prog Try.f5 false true false false) := by
  refine returnsInHanded_of_change (C := Try.checked) QuotaLess_own started (by kernel_rfl) Try.func5
    (ChangeSpec.witness6 (enc := enc) (C := Try.checked) false ⟨#[], #[.slice none 0 0, .agg #[.int .i64 0, .slice none 0 0], .agg #[.string ByteArray.empty, .int .i64 0, .int .i64 0, .string ByteArray.empty, .int .i64 0, .int .i64 0]], []⟩ 12 (by kernel_rfl) (by kernel_rfl) (by kernel_rfl) (by kernel_rfl)) ?_
  intro W base args ds gs before hval hW _ _
  exact law (P := Try.prog) (fn := Try.f5) (s := Rows.quotaLessSpec) (n := 12) (tys := [(.sl ty_api_Quota), ty_api_Tree, ty_law12_Ask_law12_Ask]) QuotaLess_laidOut (by kernel_rfl) (by kernel_rfl) rfl (by kernel_rfl) rfl
    (fun ds hl => by
      match ds, hl with
      | [a0, a1, a2], _ => exact ⟨rfl, rfl, rfl⟩) QuotaLess_contract hval hW

theorem QuotaLess_proved : Rows.QuotaLessSaid :=
  OpenClaim.holds_of_wide 5 Try.f5 rfl rfl rfl rfl rfl rfl rfl ⟨rfl, rfl, rfl, rfl, rfl⟩ rfl rfl rfl rfl rfl (by kernel_rfl) Try.func5 (by kernel_rfl)
    (of_decide_eq_true (by kernel_rfl)) (by unfold Func.isWrapper; first | (rw [if_pos (by decide +kernel)]; kernel_rfl) | (rw [if_neg (by decide +kernel)]; exact ⟨rfl, rfl⟩))
    (fun os started H enc _ => QuotaLess_lifted os started H enc)
end Go.Proofs.Ytpmkdmgmnljlmaa
