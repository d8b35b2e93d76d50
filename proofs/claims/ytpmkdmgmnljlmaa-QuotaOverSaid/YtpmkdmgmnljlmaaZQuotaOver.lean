/- The statement Rows.QuotaOverSaid: for every input that the row admits, the Go function QuotaOver returns true, does not panic, and leaves its arguments as they were. No condition is added. -/
import Derived.Test.YtpmkdmgmnljlmaaC1
import Derived.Test.YtpmkdmgmnljlmaaR
import Derived.Test.YtpmkdmgmnljlmaaP
import Derived.Test.YtpmkdmgmnljlmaaRows
namespace Go.Proofs.Ytpmkdmgmnljlmaa
open Go.Vm
open Go.ChangeShapes Go.WideShapes Go.ChangeAt Go.RowKit
set_option autoImplicit false

theorem QuotaOver_own : ownKnob Try.prog.godebug = none := by kernel_rfl
theorem QuotaOver_laidOut : laidOutB Try.prog = true := by kernel_rfl
theorem QuotaOver_contract (qs : List PV) (h : HasArgs [(.sl ty_api_Quota), ty_api_Tree] qs) : CallOK Try.prog 6 qs (.bool true) true := by
  obtain ⟨l, t_, rfl, w0, w1⟩ := args6 h
  exact c6 (law12_QuotaOver_true l t_ w0 w1)

set_option maxRecDepth 100000 in
theorem QuotaOver_lifted (os : Os) (started : os.Started) (H : Type) (enc : TypeId × Value → H) :
    ReturnsInHanded {} Try.checked os 6 .any (Rows.quotaOverSpec.pre6 enc Try.prog Try.f6 Rows.quotaOverRow.domain false) (Rows.quotaOverSpec.post enc Try.prog Try.f6 false true false false) := by
  refine returnsInHanded_of_change (C := Try.checked) QuotaOver_own started (by kernel_rfl) Try.func6
    (ChangeSpec.witness6 (enc := enc) (C := Try.checked) false ⟨#[], #[.slice none 0 0, .agg #[.int .i64 0, .slice none 0 0]], []⟩ 12 (by kernel_rfl) (by kernel_rfl) (by kernel_rfl) (by kernel_rfl)) ?_
  intro W base args ds gs before hval hW _ _
  exact law (P := Try.prog) (fn := Try.f6) (s := Rows.quotaOverSpec) (n := 12) (tys := [(.sl ty_api_Quota), ty_api_Tree]) QuotaOver_laidOut (by kernel_rfl) (by kernel_rfl) rfl (by kernel_rfl) rfl
    (fun ds hl => by
      match ds, hl with
      | [a0, a1], _ => exact ⟨rfl, rfl, rfl⟩) QuotaOver_contract hval hW

theorem QuotaOver_proved : Rows.QuotaOverSaid :=
  OpenClaim.holds_of_wide 6 Try.f6 rfl rfl rfl rfl rfl rfl rfl ⟨rfl, rfl, rfl, rfl, rfl⟩ rfl rfl rfl rfl rfl (by kernel_rfl) Try.func6 (by kernel_rfl)
    (of_decide_eq_true (by kernel_rfl)) (by unfold Func.isWrapper; first | (rw [if_pos (by decide +kernel)]; kernel_rfl) | (rw [if_neg (by decide +kernel)]; exact ⟨rfl, rfl⟩))
    (fun os started H enc _ => QuotaOver_lifted os started H enc)
end Go.Proofs.Ytpmkdmgmnljlmaa
