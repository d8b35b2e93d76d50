/- The statement Rows.ProcfsBlocksCardSaid: for every input that the row admits, the Go function ProcfsBlocks returns true, does not panic, and leaves its arguments as they were; the listed package-level variables are tied to the program's text (the tie is given). No condition is added. -/
import Derived.Test.YtgmlbldjdhonjaaDoorC1
import Derived.Test.YtgmlbldjdhonjaaDoorR
import Derived.Test.YtgmlbldjdhonjaaDoorP
import Derived.Test.YtgmlbldjdhonjaaDoorRows
import Derived.Test.YtgmlbldjdhonjaaDoorCards
import Derived.Test.YtgmlbldjdhonjaaDoorTie
import Derived.Test.YtgmlbldjdhonjaaDoorVmZ
import Derived.Lay
import Derived.LaidMore
import Derived.SevenTiedAt
import Derived.Stop.Joined
namespace Go.Proofs.YtgmlbldjdhonjaaDoor
open Go.Vm
open Go.ChangeShapes Go.WideShapes Go.ChangeAt Go.RowKit
set_option autoImplicit false
set_option maxRecDepth 100000

theorem ProcfsBlocks_own : ownKnob Tryd.prog.godebug = none := by kernel_rfl
theorem ProcfsBlocks_laidOut : laidOutB Tryd.prog = true := by kernel_rfl
theorem ProcfsBlocks_glob : globChk Tryd.prog = true := by kernel_rfl
theorem ProcfsBlocks_contract (qs : List PV) (h : HasArgs [ty_api_Procs, (.int .i64), (.int .i64), (.int .i64)] qs) : CallOK Tryd.prog 7 qs (.bool true) true := by
  obtain ⟨p, id, offset, count, rfl, w0, w1, w2, w3⟩ := args7 h
  exact c7 (law31_ProcfsBlocks_true p id offset count w0 w1 w2 w3)

theorem ProcfsBlocks_lifted (os : Os) (started : os.Started) (H : Type) (enc : TypeId × Value → H) :
    ReturnsInHanded {} Tryd.checked os 7 .any (fun w args => (Rows.procfsBlocksSpec.pre enc Tryd.prog Tryd.f7 Rows.procfsBlocksRow.domain false w args ∧ laidMetH Tryd.prog Rows.procfsBlocksRow.laid w) ∧ sizedMet enc Tryd.prog Tryd.f7 (OpenSpec.ofChange Rows.procfsBlocksSpec) false w args)
      (Rows.procfsBlocksSpec.post enc Tryd.prog Tryd.f7 false true false false) := by
  refine handed_shaped (C := Tryd.checked) (X := fun w _ => laidMetH Tryd.prog Rows.procfsBlocksRow.laid w) (fun _ _ _ hh h => h.of_heap hh) ProcfsBlocks_own started (by kernel_rfl) Tryd.func7
    (ChangeSpec.witness_shaped (enc := enc) (C := Tryd.checked) (os := os) (X := fun w _ => laidMetH Tryd.prog Rows.procfsBlocksRow.laid w) false (World.laidAll Tryd.prog os Rows.procfsBlocksRow.laid) #[.agg #[.int .i64 0, .int .i64 0, .slice none 0 0], .int .i64 0, .int .i64 0, .int .i64 0] 12 (World.laidAll_os _ _ _)
      (World.shaped_of_ZipB (by kernel_rfl) (by kernel_rfl)) (by kernel_rfl) (by kernel_rfl) (by kernel_rfl)
      (by rw [MakeChecks.laidMetH_plain _ _ _ (by kernel_rfl)]; exact laidMet_laidAll _ (by kernel_rfl) (by kernel_rfl))) ?_
  intro W base args ds gs before hsh hval hW hX hwt
  exact law (P := Tryd.prog) (fn := Tryd.f7) (s := Rows.procfsBlocksSpec) (n := 12) (tys := [ty_api_Procs, (.int .i64), (.int .i64), (.int .i64)]) ProcfsBlocks_laidOut (by kernel_rfl) (by kernel_rfl) rfl (by kernel_rfl) rfl
    (fun ds hl => by
      match ds, hl with
      | [a0, a1, a2, a3], _ => exact ⟨rfl, rfl, rfl⟩) ProcfsBlocks_contract (globOK_of ProcfsBlocks_glob hsh (globT_of 2 (by kernel_rfl) (by kernel_rfl) (by kernel_rfl) hX)) hwt hval hW

theorem ProcfsBlocks_row : Rows.ProcfsBlocksSaid :=
  OpenClaim.holds_of_wide 7 Tryd.f7 rfl rfl rfl rfl rfl rfl rfl ⟨rfl, rfl, rfl, rfl, rfl⟩ rfl rfl rfl rfl rfl (by kernel_rfl) Tryd.func7 (by kernel_rfl)
    (of_decide_eq_true (by kernel_rfl)) (by unfold Func.isWrapper; first | (rw [if_pos (by decide +kernel)]; kernel_rfl) | (rw [if_neg (by decide +kernel)]; exact ⟨rfl, rfl⟩))
    (fun os started H enc _ => ProcfsBlocks_lifted os started H enc)

theorem ProcfsBlocks_proved : Rows.ProcfsBlocksCardSaid :=
  Claim7.holds_tied_plain_at .later [] [.data, .data, .data] true (true, "a77384a6b3346e8bd7ee3225de6733eeeaa96f6307da075c5312184ebe7002cd") false
    ProcfsBlocks_row (fun _ h => by cases h) (by kernel_rfl) (fun _ h => by cases h) procfsBlocks_row_tie rfl ⟨rfl, rfl⟩ (by kernel_rfl) rfl
    (fun f fn hf hfn => by
      obtain rfl : f = 7 := Option.some.inj ((show Tryd.prog.funcNamed Rows.procfsBlocksRow.func = some 7 by kernel_rfl).symm.trans hf) |>.symm
      obtain rfl : fn = Tryd.f7 := (Option.some.inj (Tryd.func7.symm.trans hfn)).symm
      exact ⟨by kernel_rfl, fun j t ht => by
        rw [Tryd.params7] at ht
        have hj : j < 4 := by
          have := (Array.getElem?_eq_some_iff.1 ht).1
          simpa using this
        match j, hj, ht with
        | 0, _, ht => exact (by obtain rfl := Option.some.inj ht; exact (show Tryd.prog.wantsStandIn 24 = false by kernel_rfl))
        | 1, _, ht => exact (by obtain rfl := Option.some.inj ht; exact (show Tryd.prog.wantsStandIn 3 = false by kernel_rfl))
        | 2, _, ht => exact (by obtain rfl := Option.some.inj ht; exact (show Tryd.prog.wantsStandIn 3 = false by kernel_rfl))
        | 3, _, ht => exact (by obtain rfl := Option.some.inj ht; exact (show Tryd.prog.wantsStandIn 3 = false by kernel_rfl))⟩)
    (by kernel_rfl)
end Go.Proofs.YtgmlbldjdhonjaaDoor
