/- The statement Rows.ProcfsStatusCardSaid: for every input that the row admits, the Go function ProcfsStatus returns true, does not panic, and leaves its arguments as they were; the listed package-level variables are tied to the program's text (the tie is given). No condition is added. -/
import Derived.Test.YtgmlbldjdhonjaaDoorC
import Derived.Test.YtgmlbldjdhonjaaDoorR
import Derived.Test.YtgmlbldjdhonjaaDoorP
import Derived.Test.YtgmlbldjdhonjaaDoorRows
import Derived.Test.YtgmlbldjdhonjaaDoorCards
import Derived.Test.YtgmlbldjdhonjaaDoorTie
import Derived.Test.YtgmlbldjdhonjaaDoorVmZ
import Derived.Lay
import Derived.LaidMore
import Derived.SevenTiedAt
import Derived.Stop.Joined
namespace Go.Proofs.YtgmlbldjdhonjaaDoor
open Go.Vm
open Go.ChangeShapes Go.WideShapes Go.ChangeAt Go.RowKit
set_option autoImplicit false
set_option maxRecDepth 100000

theorem ProcfsStatus_own : ownKnob Tryd.prog.godebug = none := by kernel_rfl
theorem ProcfsStatus_laidOut : laidOutB Tryd.prog = true := by kernel_rfl
theorem ProcfsStatus_glob : globChk Tryd.prog = true := by kernel_rfl
theorem ProcfsStatus_contract (qs : List PV) (h : HasArgs [ty_api_Proc] qs) : CallOK Tryd.prog 4 qs (.bool true) true := by
  obtain ⟨x_, rfl, w0⟩ := args4 h
  exact c4 (law31_ProcfsStatus_true x_ w0)

theorem ProcfsStatus_lifted (os : Os) (started : os.Started) (H : Type) (enc : TypeId × Value → H) :
    ReturnsInHanded {} Tryd.checked os 4 .any (fun w args => (Rows.procfsStatusSpec.pre enc Tryd.prog Tryd.f4 Rows.procfsStatusRow.domain false w args ∧ laidMetH Tryd.prog Rows.procfsStatusRow.laid w) ∧ sizedMet enc Tryd.prog Tryd.f4 (OpenSpec.ofChange Rows.procfsStatusSpec) false w args)
      (Rows.procfsStatusSpec.post enc Tryd.prog Tryd.f4 false true false false) := by
  refine handed_shaped (C := Tryd.checked) (X := fun w _ => laidMetH Tryd.prog Rows.procfsStatusRow.laid w) (fun _ _ _ hh h => h.of_heap hh) ProcfsStatus_own started (by kernel_rfl) Tryd.func4
    (ChangeSpec.witness_shaped (enc := enc) (C := Tryd.checked) (os := os) (X := fun w _ => laidMetH Tryd.prog Rows.procfsStatusRow.laid w) false (World.laidAll Tryd.prog os Rows.procfsStatusRow.laid) #[.agg #[.int .i64 0, .int .i64 0, .int .i64 0, .string ByteArray.empty, .string ByteArray.empty, .int .i64 0, .int .i64 0, .int .i64 0, .string ByteArray.empty, .slice none 0 0, .string ByteArray.empty, .slice none 0 0, .bool false]] 12 (World.laidAll_os _ _ _)
      (World.shaped_of_ZipB (by kernel_rfl) (by kernel_rfl)) (by kernel_rfl) (by kernel_rfl) (by kernel_rfl)
      (by rw [MakeChecks.laidMetH_plain _ _ _ (by kernel_rfl)]; exact laidMet_laidAll _ (by kernel_rfl) (by kernel_rfl))) ?_
  intro W base args ds gs before hsh hval hW hX hwt
  exact law (P := Tryd.prog) (fn := Tryd.f4) (s := Rows.procfsStatusSpec) (n := 12) (tys := [ty_api_Proc]) ProcfsStatus_laidOut (by kernel_rfl) (by kernel_rfl) rfl (by kernel_rfl) rfl
    (fun ds hl => by
      match ds, hl with
      | [a0], _ => exact ⟨rfl, rfl, rfl⟩) ProcfsStatus_contract (globOK_of ProcfsStatus_glob hsh (globT_of 2 (by kernel_rfl) (by kernel_rfl) (by kernel_rfl) hX)) hwt hval hW

theorem ProcfsStatus_row : Rows.ProcfsStatusSaid :=
  OpenClaim.holds_of_wide 4 Tryd.f4 rfl rfl rfl rfl rfl rfl rfl ⟨rfl, rfl, rfl, rfl, rfl⟩ rfl rfl rfl rfl rfl (by kernel_rfl) Tryd.func4 (by kernel_rfl)
    (of_decide_eq_true (by kernel_rfl)) (by unfold Func.isWrapper; first | (rw [if_pos (by decide +kernel)]; kernel_rfl) | (rw [if_neg (by decide +kernel)]; exact ⟨rfl, rfl⟩))
    (fun os started H enc _ => ProcfsStatus_lifted os started H enc)

theorem ProcfsStatus_proved : Rows.ProcfsStatusCardSaid :=
  Claim7.holds_tied_plain_at .later [] [.data, .data, .data] true (true, "a77384a6b3346e8bd7ee3225de6733eeeaa96f6307da075c5312184ebe7002cd") false
    ProcfsStatus_row (fun _ h => by cases h) (by kernel_rfl) (fun _ h => by cases h) procfsStatus_row_tie rfl ⟨rfl, rfl⟩ (by kernel_rfl) rfl
    (fun f fn hf hfn => by
      obtain rfl : f = 4 := Option.some.inj ((show Tryd.prog.funcNamed Rows.procfsStatusRow.func = some 4 by kernel_rfl).symm.trans hf) |>.symm
      obtain rfl : fn = Tryd.f4 := (Option.some.inj (Tryd.func4.symm.trans hfn)).symm
      exact ⟨by kernel_rfl, fun j t ht => by
        rw [Tryd.params4] at ht
        have hj : j < 1 := by
          have := (Array.getElem?_eq_some_iff.1 ht).1
          simpa using this
        match j, hj, ht with
        | 0, _, ht => exact (by obtain rfl := Option.some.inj ht; exact (show Tryd.prog.wantsStandIn 33 = false by kernel_rfl))⟩)
    (by kernel_rfl)
end Go.Proofs.YtgmlbldjdhonjaaDoor
