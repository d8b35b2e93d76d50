/- The statement Rows.QuotaChecksSaid: for every input that the row admits, the Go function QuotaChecks returns true, does not panic, and leaves its arguments as they were. No condition is added. -/
import Derived.Test.YtpmkdmgmnljlmaaC1
import Derived.Test.YtpmkdmgmnljlmaaR
import Derived.Test.YtpmkdmgmnljlmaaP
import Derived.Test.YtpmkdmgmnljlmaaRows
namespace Go.Proofs.Ytpmkdmgmnljlmaa
open Go.Vm
open Go.ChangeShapes Go.WideShapes Go.ChangeAt Go.RowKit
set_option autoImplicit false

theorem QuotaChecks_own : ownKnob Try.prog.godebug = none := by kernel_rfl
theorem QuotaChecks_laidOut : laidOutB Try.prog = true := by kernel_rfl
theorem QuotaChecks_contract (qs : List PV) (h : HasArgs [(.sl ty_api_Quota)] qs) : CallOK Try.prog 3 qs (.bool true) true := by
  obtain ⟨l, rfl, w0⟩ := args3 h
  exact c3 (law12_QuotaChecks_true l w0)

set_option maxRecDepth 100000 in
theorem QuotaChecks_lifted (os : Os) (started : os.Started) (H : Type) (enc : TypeId × Value → H) :
    ReturnsInHanded {} Try.checked os 3 .any (Rows.quotaChecksSpec.pre6 enc Try.prog Try.f3 Rows.quotaChecksRow.domain false) (Rows.quotaChecksSpec.post enc Try.prog Try.f3 false true false false) := by
  refine returnsInHanded_of_change (C := Try.checked) QuotaChecks_own started (by kernel_rfl) Try.func3
    (ChangeSpec.witness6 (enc := enc) (C := Try.checked) false ⟨#[], #[.slice none 0 0], []⟩ 12 (by kernel_rfl) (by kernel_rfl) (by kernel_rfl) (by kernel_rfl)) ?_
  intro W base args ds gs before hval hW _ _
  exact law (P := Try.prog) (fn := Try.f3) (s := Rows.quotaChecksSpec) (n := 12) (tys := [(.sl ty_api_Quota)]) QuotaChecks_laidOut (by kernel_rfl) (by kernel_rfl) rfl (by kernel_rfl) rfl
    (fun ds hl => by
      match ds, hl with
      | [a0], _ => exact ⟨rfl, rfl, rfl⟩) QuotaChecks_contract hval hW

theorem QuotaChecks_proved : Rows.QuotaChecksSaid :=
  OpenClaim.holds_of_wide 3 Try.f3 rfl rfl rfl rfl rfl rfl rfl ⟨rfl, rfl, rfl, rfl, rfl⟩ rfl rfl rfl rfl rfl (by kernel_rfl) Try.func3 (by kernel_rfl)
    (of_decide_eq_true (by kernel_rfl)) (by unfold Func.isWrapper; first | (rw [if_pos (by decide +kernel)]; kernel_rfl) | (rw [if_neg (by decide +kernel)]; exact ⟨rfl, rfl⟩))
    (fun os started H enc _ => QuotaChecks_lifted os started H enc)
end Go.Proofs.Ytpmkdmgmnljlmaa
