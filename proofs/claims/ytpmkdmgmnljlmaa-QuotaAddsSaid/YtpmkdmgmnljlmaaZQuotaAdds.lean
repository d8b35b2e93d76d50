/- The statement Rows.QuotaAddsSaid: for every input that the row admits, the Go function QuotaAdds returns true, does not panic, and leaves its arguments as they were. No condition is added. -/
import Derived.Test.YtpmkdmgmnljlmaaC1
import Derived.Test.YtpmkdmgmnljlmaaR
import Derived.Test.YtpmkdmgmnljlmaaP
import Derived.Test.YtpmkdmgmnljlmaaRows
namespace Go.Proofs.Ytpmkdmgmnljlmaa
open Go.Vm
open Go.ChangeShapes Go.WideShapes Go.ChangeAt Go.RowKit
set_option autoImplicit false

theorem QuotaAdds_own : ownKnob Try.prog.godebug = none := by kernel_rfl
theorem QuotaAdds_laidOut : laidOutB Try.prog = true := by kernel_rfl
theorem QuotaAdds_contract (qs : List PV) (h : HasArgs [(.sl ty_api_Quota), ty_api_Tree, .str, .str] qs) : CallOK Try.prog 7 qs (.bool true) true := by
  obtain ⟨l, t_, user, data, rfl, w0, w1, w2, w3⟩ := args7 h
  exact c7 (law12_QuotaAdds_true l t_ user data w0 w1 w2 w3)

set_option maxRecDepth 100000 in
theorem QuotaAdds_lifted (os : Os) (started : os.Started) (H : Type) (enc : TypeId × Value → H) :
    ReturnsInHanded {} Try.checked os 7 .any (Rows.quotaAddsSpec.pre6 enc Try.prog Try.f7 Rows.quotaAddsRow.domain false) (Rows.quotaAddsSpec.post enc Try.prog Try.f7 false true false false) := by
  refine returnsInHanded_of_change (C := Try.checked) QuotaAdds_own started (by kernel_rfl) Try.func7
    (ChangeSpec.witness6 (enc := enc) (C := Try.checked) false ⟨#[], #[.slice none 0 0, .agg #[.int .i64 0, .slice none 0 0], .string ByteArray.empty, .string ByteArray.empty], []⟩ 12 (by kernel_rfl) (by kernel_rfl) (by kernel_rfl) (by kernel_rfl)) ?_
  intro W base args ds gs before hval hW _ _
  exact law (P := Try.prog) (fn := Try.f7) (s := Rows.quotaAddsSpec) (n := 12) (tys := [(.sl ty_api_Quota), ty_api_Tree, .str, .str]) QuotaAdds_laidOut (by kernel_rfl) (by kernel_rfl) rfl (by kernel_rfl) rfl
    (fun ds hl => by
      match ds, hl with
      | [a0, a1, a2, a3], _ => exact ⟨rfl, rfl, rfl⟩) QuotaAdds_contract hval hW

theorem QuotaAdds_proved : Rows.QuotaAddsSaid :=
  OpenClaim.holds_of_wide 7 Try.f7 rfl rfl rfl rfl rfl rfl rfl ⟨rfl, rfl, rfl, rfl, rfl⟩ rfl rfl rfl rfl rfl (by kernel_rfl) Try.func7 (by kernel_rfl)
    (of_decide_eq_true (by kernel_rfl)) (by unfold Func.isWrapper; first | (rw [if_pos (by decide +kernel)]; kernel_rfl) | (rw [if_neg (by decide +kernel)]; exact ⟨rfl, rfl⟩))
    (fun os started H enc _ => QuotaAdds_lifted os started H enc)
end Go.Proofs.Ytpmkdmgmnljlmaa
