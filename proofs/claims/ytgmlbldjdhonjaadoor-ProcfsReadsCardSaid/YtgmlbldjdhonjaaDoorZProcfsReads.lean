/- The statement Rows.ProcfsReadsCardSaid: for every input that the row admits, the Go function ProcfsReads returns true, does not panic, and leaves its arguments as they were; the listed package-level variables are tied to the program's text (the tie is given). No condition is added. -/
import Derived.Test.YtgmlbldjdhonjaaDoorC1
import Derived.Test.YtgmlbldjdhonjaaDoorR
import Derived.Test.YtgmlbldjdhonjaaDoorP
import Derived.Test.YtgmlbldjdhonjaaDoorRows
import Derived.Test.YtgmlbldjdhonjaaDoorCards
import Derived.Test.YtgmlbldjdhonjaaDoorTie
import Derived.Test.YtgmlbldjdhonjaaDoorVmZ
import Derived.Lay
import Derived.LaidMore
import Derived.SevenTiedAt
import Derived.Stop.Joined
namespace Go.Proofs.YtgmlbldjdhonjaaDoor
open Go.Vm
open Go.ChangeShapes Go.WideShapes Go.ChangeAt Go.RowKit
set_option autoImplicit false
set_option maxRecDepth 100000

theorem ProcfsReads_own : ownKnob Tryd.prog.godebug = none := by kernel_rfl
theorem ProcfsReads_laidOut : laidOutB Tryd.prog = true := by kernel_rfl
theorem ProcfsReads_glob : globChk Tryd.prog = true := by kernel_rfl
theorem ProcfsReads_contract (qs : List PV) (h : HasArgs [ty_api_Procs, (.int .i64), .str] qs) : CallOK Tryd.prog 5 qs (.bool true) true := by
  obtain ⟨p, id, name, rfl, w0, w1, w2⟩ := args5 h
  exact c5 (law31_ProcfsReads_true p id name w0 w1 w2)

theorem ProcfsReads_lifted (os : Os) (started : os.Started) (H : Type) (enc : TypeId × Value → H) :
    ReturnsInHanded {} Tryd.checked os 5 .any (fun w args => (Rows.procfsReadsSpec.pre enc Tryd.prog Tryd.f5 Rows.procfsReadsRow.domain false w args ∧ laidMetH Tryd.prog Rows.procfsReadsRow.laid w) ∧ sizedMet enc Tryd.prog Tryd.f5 (OpenSpec.ofChange Rows.procfsReadsSpec) false w args)
      (Rows.procfsReadsSpec.post enc Tryd.prog Tryd.f5 false true false false) := by
  refine handed_shaped (C := Tryd.checked) (X := fun w _ => laidMetH Tryd.prog Rows.procfsReadsRow.laid w) (fun _ _ _ hh h => h.of_heap hh) ProcfsReads_own started (by kernel_rfl) Tryd.func5
    (ChangeSpec.witness_shaped (enc := enc) (C := Tryd.checked) (os := os) (X := fun w _ => laidMetH Tryd.prog Rows.procfsReadsRow.laid w) false (World.laidAll Tryd.prog os Rows.procfsReadsRow.laid) #[.agg #[.int .i64 0, .int .i64 0, .slice none 0 0], .int .i64 0, .string ByteArray.empty] 12 (World.laidAll_os _ _ _)
      (World.shaped_of_ZipB (by kernel_rfl) (by kernel_rfl)) (by kernel_rfl) (by kernel_rfl) (by kernel_rfl)
      (by rw [MakeChecks.laidMetH_plain _ _ _ (by kernel_rfl)]; exact laidMet_laidAll _ (by kernel_rfl) (by kernel_rfl))) ?_
  intro W base args ds gs before hsh hval hW hX hwt
  exact law (P := Tryd.prog) (fn := Tryd.f5) (s := Rows.procfsReadsSpec) (n := 12) (tys := [ty_api_Procs, (.int .i64), .str]) ProcfsReads_laidOut (by kernel_rfl) (by kernel_rfl) rfl (by kernel_rfl) rfl
    (fun ds hl => by
      match ds, hl with
      | [a0, a1, a2], _ => exact ⟨rfl, rfl, rfl⟩) ProcfsReads_contract (globOK_of ProcfsReads_glob hsh (globT_of 2 (by kernel_rfl) (by kernel_rfl) (by kernel_rfl) hX)) hwt hval hW

theorem ProcfsReads_row : Rows.ProcfsReadsSaid :=
  OpenClaim.holds_of_wide 5 Tryd.f5 rfl rfl rfl rfl rfl rfl rfl ⟨rfl, rfl, rfl, rfl, rfl⟩ rfl rfl rfl rfl rfl (by kernel_rfl) Tryd.func5 (by kernel_rfl)
    (of_decide_eq_true (by kernel_rfl)) (by unfold Func.isWrapper; first | (rw [if_pos (by decide +kernel)]; kernel_rfl) | (rw [if_neg (by decide +kernel)]; exact ⟨rfl, rfl⟩))
    (fun os started H enc _ => ProcfsReads_lifted os started H enc)

theorem ProcfsReads_proved : Rows.ProcfsReadsCardSaid :=
  Claim7.holds_tied_plain_at .later [] [.data, .data, .data] true (true, "a77384a6b3346e8bd7ee3225de6733eeeaa96f6307da075c5312184ebe7002cd") false
    ProcfsReads_row (fun _ h => by cases h) (by kernel_rfl) (fun _ h => by cases h) procfsReads_row_tie rfl ⟨rfl, rfl⟩ (by kernel_rfl) rfl
    (fun f fn hf hfn => by
      obtain rfl : f = 5 := Option.some.inj ((show Tryd.prog.funcNamed Rows.procfsReadsRow.func = some 5 by kernel_rfl).symm.trans hf) |>.symm
      obtain rfl : fn = Tryd.f5 := (Option.some.inj (Tryd.func5.symm.trans hfn)).symm
      exact ⟨by kernel_rfl, fun j t ht => by
        rw [Tryd.params5] at ht
        have hj : j < 3 := by
          have := (Array.getElem?_eq_some_iff.1 ht).1
          simpa using this
        match j, hj, ht with
        | 0, _, ht => exact (by obtain rfl := Option.some.inj ht; exact (show Tryd.prog.wantsStandIn 24 = false by kernel_rfl))
        | 1, _, ht => exact (by obtain rfl := Option.some.inj ht; exact (show Tryd.prog.wantsStandIn 3 = false by kernel_rfl))
        | 2, _, ht => exact (by obtain rfl := Option.some.inj ht; exact (show Tryd.prog.wantsStandIn 9 = false by kernel_rfl))⟩)
    (by kernel_rfl)
end Go.Proofs.YtgmlbldjdhonjaaDoor
