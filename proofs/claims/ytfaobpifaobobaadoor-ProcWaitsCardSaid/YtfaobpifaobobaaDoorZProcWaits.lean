/- The statement Rows.ProcWaitsCardSaid: for every input that the row admits, the Go function ProcWaits returns true, does not panic, and leaves its arguments as they were; the listed package-level variables are tied to the program's text (the tie is given). No condition is added. -/
import Derived.Test.YtfaobpifaobobaaDoorC1
import Derived.Test.YtfaobpifaobobaaDoorR
import Derived.Test.YtfaobpifaobobaaDoorP
import Derived.Test.YtfaobpifaobobaaDoorRows
import Derived.Test.YtfaobpifaobobaaDoorCards
import Derived.Test.YtfaobpifaobobaaDoorTie
import Derived.Test.YtfaobpifaobobaaDoorVmZ
import Derived.Lay
import Derived.LaidMore
import Derived.SevenTiedAt
import Derived.Stop.Joined
namespace Go.Proofs.YtfaobpifaobobaaDoor
open Go.Vm
open Go.ChangeShapes Go.WideShapes Go.ChangeAt Go.RowKit
set_option autoImplicit false
set_option maxRecDepth 100000

theorem ProcWaits_own : ownKnob Tryd.prog.godebug = none := by kernel_rfl
theorem ProcWaits_laidOut : laidOutB Tryd.prog = true := by kernel_rfl
theorem ProcWaits_glob : globChk Tryd.prog = true := by kernel_rfl
theorem ProcWaits_contract (qs : List PV) (h : HasArgs [ty_api_Procs, (.int .i64), .str] qs) : CallOK Tryd.prog 5 qs (.bool true) true := by
  obtain ⟨p, id, status, rfl, w0, w1, w2⟩ := args5 h
  exact c5 (law30_ProcWaits_true p id status w0 w1 w2)

theorem ProcWaits_lifted (os : Os) (started : os.Started) (H : Type) (enc : TypeId × Value → H) :
    ReturnsInHanded {} Tryd.checked os 5 .any (fun w args => (Rows.procWaitsSpec.pre enc Tryd.prog Tryd.f5 Rows.procWaitsRow.domain false w args ∧ laidMetH Tryd.prog Rows.procWaitsRow.laid w) ∧ sizedMet enc Tryd.prog Tryd.f5 (OpenSpec.ofChange Rows.procWaitsSpec) false w args)
      (Rows.procWaitsSpec.post enc Tryd.prog Tryd.f5 false true false false) := by
  refine handed_shaped (C := Tryd.checked) (X := fun w _ => laidMetH Tryd.prog Rows.procWaitsRow.laid w) (fun _ _ _ hh h => h.of_heap hh) ProcWaits_own started (by kernel_rfl) Tryd.func5
    (ChangeSpec.witness_shaped (enc := enc) (C := Tryd.checked) (os := os) (X := fun w _ => laidMetH Tryd.prog Rows.procWaitsRow.laid w) false (World.laidAll Tryd.prog os Rows.procWaitsRow.laid) #[.agg #[.int .i64 0, .int .i64 0, .slice none 0 0], .int .i64 0, .string ByteArray.empty] 12 (World.laidAll_os _ _ _)
      (World.shaped_of_ZipB (by kernel_rfl) (by kernel_rfl)) (by kernel_rfl) (by kernel_rfl) (by kernel_rfl)
      (by rw [MakeChecks.laidMetH_plain _ _ _ (by kernel_rfl)]; exact laidMet_laidAll _ (by kernel_rfl) (by kernel_rfl))) ?_
  intro W base args ds gs before hsh hval hW _ hwt
  exact law (P := Tryd.prog) (fn := Tryd.f5) (s := Rows.procWaitsSpec) (n := 12) (tys := [ty_api_Procs, (.int .i64), .str]) ProcWaits_laidOut (by kernel_rfl) (by kernel_rfl) rfl (by kernel_rfl) rfl
    (fun ds hl => by
      match ds, hl with
      | [a0, a1, a2], _ => exact ⟨rfl, rfl, rfl⟩) ProcWaits_contract (globOK_of ProcWaits_glob hsh) hwt hval hW

theorem ProcWaits_row : Rows.ProcWaitsSaid :=
  OpenClaim.holds_of_wide 5 Tryd.f5 rfl rfl rfl rfl rfl rfl rfl ⟨rfl, rfl, rfl, rfl, rfl⟩ rfl rfl rfl rfl rfl (by kernel_rfl) Tryd.func5 (by kernel_rfl)
    (of_decide_eq_true (by kernel_rfl)) (by unfold Func.isWrapper; first | (rw [if_pos (by decide +kernel)]; kernel_rfl) | (rw [if_neg (by decide +kernel)]; exact ⟨rfl, rfl⟩))
    (fun os started H enc _ => ProcWaits_lifted os started H enc)

theorem ProcWaits_proved : Rows.ProcWaitsCardSaid :=
  Claim7.holds_tied_plain_at .later [] [.data, .pinned] true (true, "07299f55a087af88df34ed9a8441cfe5fb09456fd8a7df49fd7daa28008819c9") false
    ProcWaits_row (fun _ h => by cases h) (by kernel_rfl) (fun _ h => by cases h) procWaits_row_tie rfl ⟨rfl, rfl⟩ (by kernel_rfl) rfl
    (fun f fn hf hfn => by
      obtain rfl : f = 5 := Option.some.inj ((show Tryd.prog.funcNamed Rows.procWaitsRow.func = some 5 by kernel_rfl).symm.trans hf) |>.symm
      obtain rfl : fn = Tryd.f5 := (Option.some.inj (Tryd.func5.symm.trans hfn)).symm
      exact ⟨by kernel_rfl, fun j t ht => by
        rw [Tryd.params5] at ht
        have hj : j < 3 := by
          have := (Array.getElem?_eq_some_iff.1 ht).1
          simpa using this
        match j, hj, ht with
        | 0, _, ht => exact (by obtain rfl := Option.some.inj ht; exact (show Tryd.prog.wantsStandIn 25 = false by kernel_rfl))
        | 1, _, ht => exact (by obtain rfl := Option.some.inj ht; exact (show Tryd.prog.wantsStandIn 3 = false by kernel_rfl))
        | 2, _, ht => exact (by obtain rfl := Option.some.inj ht; exact (show Tryd.prog.wantsStandIn 9 = false by kernel_rfl))⟩)
    (by kernel_rfl)
end Go.Proofs.YtfaobpifaobobaaDoor
