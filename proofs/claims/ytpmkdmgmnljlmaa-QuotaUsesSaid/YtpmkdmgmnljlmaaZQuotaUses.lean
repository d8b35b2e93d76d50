/- The statement Rows.QuotaUsesSaid: for every input that the row admits, the Go function QuotaUses returns true, does not panic, and leaves its arguments as they were. No condition is added. -/
import Derived.Test.YtpmkdmgmnljlmaaC1
import Derived.Test.YtpmkdmgmnljlmaaR
import Derived.Test.YtpmkdmgmnljlmaaP
import Derived.Test.YtpmkdmgmnljlmaaRows
namespace Go.Proofs.Ytpmkdmgmnljlmaa
open Go.Vm
open Go.ChangeShapes Go.WideShapes Go.ChangeAt Go.RowKit
set_option autoImplicit false

theorem QuotaUses_own : ownKnob Try.prog.godebug = none := by kernel_rfl
theorem QuotaUses_laidOut : laidOutB Try.prog = true := by kernel_rfl
theorem QuotaUses_contract (qs : List PV) (h : HasArgs [(.sl ty_api_Quota), ty_api_Tree, ty_law12_Ask] qs) : CallOK Try.prog 4 qs (.bool true) true := by
  obtain ⟨l, t_, x_, rfl, w0, w1, w2⟩ := args4 h
  exact c4 (law12_QuotaUses_true l t_ x_ w0 w1 w2)

set_option maxRecDepth 100000 in
theorem QuotaUses_lifted (os : Os) (started : os.Started) (H : Type) (enc : TypeId × Value → H) :
    ReturnsInHanded {} Try.checked os 4 .any (Rows.quotaUsesSpec.pre6 enc Try.prog Try.f4 Rows.quotaUsesRow.domain false) (Rows.quotaUsesSpec.post enc Try.prog Try.f4 false true false false) := by
  refine returnsInHanded_of_change (C := Try.checked) QuotaUses_own started (by kernel_rfl) Try.func4
    (ChangeSpec.witness6 (enc := enc) (C := Try.checked) false ⟨#[], #[.slice none 0 0, .agg #[.int .i64 0, .slice none 0 0], .agg #[.string ByteArray.empty, .int .i64 0, .int .i64 0]], []⟩ 12 (by kernel_rfl) (by kernel_rfl) (by kernel_rfl) (by kernel_rfl)) ?_
  intro W base args ds gs before hval hW _ _
  exact law (P := Try.prog) (fn := Try.f4) (s := Rows.quotaUsesSpec) (n := 12) (tys := [(.sl ty_api_Quota), ty_api_Tree, ty_law12_Ask]) QuotaUses_laidOut (by kernel_rfl) (by kernel_rfl) rfl (by kernel_rfl) rfl
    (fun ds hl => by
      match ds, hl with
      | [a0, a1, a2], _ => exact ⟨rfl, rfl, rfl⟩) QuotaUses_contract hval hW

theorem QuotaUses_proved : Rows.QuotaUsesSaid :=
  OpenClaim.holds_of_wide 4 Try.f4 rfl rfl rfl rfl rfl rfl rfl ⟨rfl, rfl, rfl, rfl, rfl⟩ rfl rfl rfl rfl rfl (by kernel_rfl) Try.func4 (by kernel_rfl)
    (of_decide_eq_true (by kernel_rfl)) (by unfold Func.isWrapper; first | (rw [if_pos (by decide +kernel)]; kernel_rfl) | (rw [if_neg (by decide +kernel)]; exact ⟨rfl, rfl⟩))
    (fun os started H enc _ => QuotaUses_lifted os started H enc)
end Go.Proofs.Ytpmkdmgmnljlmaa
