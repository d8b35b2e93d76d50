/- The statement Rows.ProcfsCallsCardSaid: for every input that the row admits, the Go function ProcfsCalls returns true, does not panic, and leaves its arguments as they were; the listed package-level variables are tied to the program's text (the tie is given). No condition is added. -/
import Derived.Test.YtgmlbldjdhonjaaGreatDoorT
import Derived.Test.YtgmlbldjdhonjaaGreatDoorR
import Derived.Test.YtgmlbldjdhonjaaGreatDoorP
import Derived.Test.YtgmlbldjdhonjaaGreatDoorRows
import Derived.Test.YtgmlbldjdhonjaaGreatDoorCards
import Derived.Test.YtgmlbldjdhonjaaGreatDoorTie
import Derived.Test.YtgmlbldjdhonjaaGreatDoorVmZ
import Derived.Lay
import Derived.LaidMore
import Derived.SevenTiedAt
import Derived.Stop.Joined
namespace Go.Proofs.YtgmlbldjdhonjaaGreatDoor
open Go.Vm
open Go.ChangeShapes Go.WideShapes Go.ChangeAt Go.RowKit
set_option autoImplicit false
set_option maxRecDepth 100000

theorem ProcfsCalls_own : ownKnob Tryz.prog.godebug = none := by kernel_rfl
theorem ProcfsCalls_laidOut : laidOutB Tryz.prog = true := by kernel_rfl
theorem ProcfsCalls_glob : globChk Tryz.prog = true := by kernel_rfl
theorem ProcfsCalls_contract (qs : List PV) (h : HasArgs [ty_api_Procs, ty_law31_Op] qs) : CallOK Tryz.prog 3 qs (.bool true) true := by
  obtain ⟨p, o, rfl, w0, w1⟩ := args3 h
  exact c3 (law31_ProcfsCalls_true p o w0 w1)

theorem ProcfsCalls_lifted (os : Os) (started : os.Started) (H : Type) (enc : TypeId × Value → H) :
    ReturnsInHanded {} Tryz.checked os 3 .any (fun w args => (Rows.procfsCallsSpec.pre enc Tryz.prog Tryz.f3 Rows.procfsCallsRow.domain false w args ∧ laidMetH Tryz.prog Rows.procfsCallsRow.laid w) ∧ sizedMet enc Tryz.prog Tryz.f3 (OpenSpec.ofChange Rows.procfsCallsSpec) false w args)
      (Rows.procfsCallsSpec.post enc Tryz.prog Tryz.f3 false true false false) := by
  refine handed_shaped (C := Tryz.checked) (X := fun w _ => laidMetH Tryz.prog Rows.procfsCallsRow.laid w) (fun _ _ _ hh h => h.of_heap hh) ProcfsCalls_own started (by kernel_rfl) Tryz.func3
    (ChangeSpec.witness_shaped (enc := enc) (C := Tryz.checked) (os := os) (X := fun w _ => laidMetH Tryz.prog Rows.procfsCallsRow.laid w) false (World.laidAll Tryz.prog os Rows.procfsCallsRow.laid) #[.agg #[.int .i64 0, .int .i64 0, .slice none 0 0], .agg #[.int .i64 0, .string ByteArray.empty, .int .i64 0, .int .i64 0, .int .i64 0, .string ByteArray.empty]] 12 (World.laidAll_os _ _ _)
      (World.shaped_of_ZipB (by kernel_rfl) (by kernel_rfl)) (by kernel_rfl) (by kernel_rfl) (by kernel_rfl)
      (by rw [MakeChecks.laidMetH_plain _ _ _ (by kernel_rfl)]; exact laidMet_laidAll _ (by kernel_rfl) (by kernel_rfl))) ?_
  intro W base args ds gs before hsh hval hW hX hwt
  exact law (P := Tryz.prog) (fn := Tryz.f3) (s := Rows.procfsCallsSpec) (n := 12) (tys := [ty_api_Procs, ty_law31_Op]) ProcfsCalls_laidOut (by kernel_rfl) (by kernel_rfl) rfl (by kernel_rfl) rfl
    (fun ds hl => by
      match ds, hl with
      | [a0, a1], _ => exact ⟨rfl, rfl, rfl⟩) ProcfsCalls_contract (globOK_of ProcfsCalls_glob hsh (globT_of 2 (by kernel_rfl) (by kernel_rfl) (by kernel_rfl) hX)) hwt hval hW

theorem ProcfsCalls_row : Rows.ProcfsCallsSaid :=
  OpenClaim.holds_of_wide 3 Tryz.f3 rfl rfl rfl rfl rfl rfl rfl ⟨rfl, rfl, rfl, rfl, rfl⟩ rfl rfl rfl rfl rfl (by kernel_rfl) Tryz.func3 (by kernel_rfl)
    (of_decide_eq_true (by kernel_rfl)) (by unfold Func.isWrapper; first | (rw [if_pos (by decide +kernel)]; kernel_rfl) | (rw [if_neg (by decide +kernel)]; exact ⟨rfl, rfl⟩))
    (fun os started H enc _ => ProcfsCalls_lifted os started H enc)

theorem ProcfsCalls_proved : Rows.ProcfsCallsCardSaid :=
  Claim7.holds_tied_plain_at .later [] [.data, .data, .data, .data, .pinned] true (true, "7e819da5f7185b5f72c8cc52bfc99e17f4568dbcd6038cd702e439ba61d278c4") false
    ProcfsCalls_row (fun _ h => by cases h) (by kernel_rfl) (fun _ h => by cases h) procfsCalls_row_tie rfl ⟨rfl, rfl⟩ (by kernel_rfl) rfl
    (fun f fn hf hfn => by
      obtain rfl : f = 3 := Option.some.inj ((show Tryz.prog.funcNamed Rows.procfsCallsRow.func = some 3 by kernel_rfl).symm.trans hf) |>.symm
      obtain rfl : fn = Tryz.f3 := (Option.some.inj (Tryz.func3.symm.trans hfn)).symm
      exact ⟨by kernel_rfl, fun j t ht => by
        rw [Tryz.params3] at ht
        have hj : j < 2 := by
          have := (Array.getElem?_eq_some_iff.1 ht).1
          simpa using this
        match j, hj, ht with
        | 0, _, ht => exact (by obtain rfl := Option.some.inj ht; exact (show Tryz.prog.wantsStandIn 24 = false by kernel_rfl))
        | 1, _, ht => exact (by obtain rfl := Option.some.inj ht; exact (show Tryz.prog.wantsStandIn 26 = false by kernel_rfl))⟩)
    (by kernel_rfl)
end Go.Proofs.YtgmlbldjdhonjaaGreatDoor
