/- The statement Rows.ProcCallsCardSaid: for every input that the row admits, the Go function ProcCalls returns true, does not panic, and leaves its arguments as they were; the listed package-level variables are tied to the program's text (the tie is given). No condition is added. -/
import Derived.Test.YtfaobpifaobobaaDoorC1
import Derived.Test.YtfaobpifaobobaaDoorR
import Derived.Test.YtfaobpifaobobaaDoorP
import Derived.Test.YtfaobpifaobobaaDoorRows
import Derived.Test.YtfaobpifaobobaaDoorCards
import Derived.Test.YtfaobpifaobobaaDoorTie
import Derived.Test.YtfaobpifaobobaaDoorVmZ
import Derived.Lay
import Derived.LaidMore
import Derived.SevenTiedAt
import Derived.Stop.Joined
namespace Go.Proofs.YtfaobpifaobobaaDoor
open Go.Vm
open Go.ChangeShapes Go.WideShapes Go.ChangeAt Go.RowKit
set_option autoImplicit false
set_option maxRecDepth 100000

theorem ProcCalls_own : ownKnob Tryd.prog.godebug = none := by kernel_rfl
theorem ProcCalls_laidOut : laidOutB Tryd.prog = true := by kernel_rfl
theorem ProcCalls_glob : globChk Tryd.prog = true := by kernel_rfl
theorem ProcCalls_contract (qs : List PV) (h : HasArgs [ty_api_Procs, ty_law30_Op] qs) : CallOK Tryd.prog 7 qs (.bool true) true := by
  obtain ⟨p, o, rfl, w0, w1⟩ := args7 h
  exact c7 (law30_ProcCalls_true p o w0 w1)

theorem ProcCalls_lifted (os : Os) (started : os.Started) (H : Type) (enc : TypeId × Value → H) :
    ReturnsInHanded {} Tryd.checked os 7 .any (fun w args => (Rows.procCallsSpec.pre enc Tryd.prog Tryd.f7 Rows.procCallsRow.domain false w args ∧ laidMetH Tryd.prog Rows.procCallsRow.laid w) ∧ sizedMet enc Tryd.prog Tryd.f7 (OpenSpec.ofChange Rows.procCallsSpec) false w args)
      (Rows.procCallsSpec.post enc Tryd.prog Tryd.f7 false true false false) := by
  refine handed_shaped (C := Tryd.checked) (X := fun w _ => laidMetH Tryd.prog Rows.procCallsRow.laid w) (fun _ _ _ hh h => h.of_heap hh) ProcCalls_own started (by kernel_rfl) Tryd.func7
    (ChangeSpec.witness_shaped (enc := enc) (C := Tryd.checked) (os := os) (X := fun w _ => laidMetH Tryd.prog Rows.procCallsRow.laid w) false (World.laidAll Tryd.prog os Rows.procCallsRow.laid) #[.agg #[.int .i64 0, .int .i64 0, .slice none 0 0], .agg #[.int .i64 0, .int .i64 0, .int .i64 0, .string ByteArray.empty]] 12 (World.laidAll_os _ _ _)
      (World.shaped_of_ZipB (by kernel_rfl) (by kernel_rfl)) (by kernel_rfl) (by kernel_rfl) (by kernel_rfl)
      (by rw [MakeChecks.laidMetH_plain _ _ _ (by kernel_rfl)]; exact laidMet_laidAll _ (by kernel_rfl) (by kernel_rfl))) ?_
  intro W base args ds gs before hsh hval hW _ hwt
  exact law (P := Tryd.prog) (fn := Tryd.f7) (s := Rows.procCallsSpec) (n := 12) (tys := [ty_api_Procs, ty_law30_Op]) ProcCalls_laidOut (by kernel_rfl) (by kernel_rfl) rfl (by kernel_rfl) rfl
    (fun ds hl => by
      match ds, hl with
      | [a0, a1], _ => exact ⟨rfl, rfl, rfl⟩) ProcCalls_contract (globOK_of ProcCalls_glob hsh) hwt hval hW

theorem ProcCalls_row : Rows.ProcCallsSaid :=
  OpenClaim.holds_of_wide 7 Tryd.f7 rfl rfl rfl rfl rfl rfl rfl ⟨rfl, rfl, rfl, rfl, rfl⟩ rfl rfl rfl rfl rfl (by kernel_rfl) Tryd.func7 (by kernel_rfl)
    (of_decide_eq_true (by kernel_rfl)) (by unfold Func.isWrapper; first | (rw [if_pos (by decide +kernel)]; kernel_rfl) | (rw [if_neg (by decide +kernel)]; exact ⟨rfl, rfl⟩))
    (fun os started H enc _ => ProcCalls_lifted os started H enc)

theorem ProcCalls_proved : Rows.ProcCallsCardSaid :=
  Claim7.holds_tied_plain_at .later [] [.data, .pinned] true (true, "07299f55a087af88df34ed9a8441cfe5fb09456fd8a7df49fd7daa28008819c9") false
    ProcCalls_row (fun _ h => by cases h) (by kernel_rfl) (fun _ h => by cases h) procCalls_row_tie rfl ⟨rfl, rfl⟩ (by kernel_rfl) rfl
    (fun f fn hf hfn => by
      obtain rfl : f = 7 := Option.some.inj ((show Tryd.prog.funcNamed Rows.procCallsRow.func = some 7 by kernel_rfl).symm.trans hf) |>.symm
      obtain rfl : fn = Tryd.f7 := (Option.some.inj (Tryd.func7.symm.trans hfn)).symm
      exact ⟨by kernel_rfl, fun j t ht => by
        rw [Tryd.params7] at ht
        have hj : j < 2 := by
          have := (Array.getElem?_eq_some_iff.1 ht).1
          simpa using this
        match j, hj, ht with
        | 0, _, ht => exact (by obtain rfl := Option.some.inj ht; exact (show Tryd.prog.wantsStandIn 25 = false by kernel_rfl))
        | 1, _, ht => exact (by obtain rfl := Option.some.inj ht; exact (show Tryd.prog.wantsStandIn 51 = false by kernel_rfl))⟩)
    (by kernel_rfl)
end Go.Proofs.YtfaobpifaobobaaDoor
