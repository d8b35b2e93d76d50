/- The statement Rows.ProcNewsCardSaid: for every input that the row admits, the Go function ProcNews returns true, does not panic, and leaves its arguments as they were; the listed package-level variables are tied to the program's text (the tie is given). No condition is added. -/
import Derived.Test.YtfaobpifaobobaaDoorC1
import Derived.Test.YtfaobpifaobobaaDoorR
import Derived.Test.YtfaobpifaobobaaDoorP
import Derived.Test.YtfaobpifaobobaaDoorRows
import Derived.Test.YtfaobpifaobobaaDoorCards
import Derived.Test.YtfaobpifaobobaaDoorTie
import Derived.Test.YtfaobpifaobobaaDoorVmZ
import Derived.Lay
import Derived.LaidMore
import Derived.SevenTiedAt
import Derived.Stop.Joined
namespace Go.Proofs.YtfaobpifaobobaaDoor
open Go.Vm
open Go.ChangeShapes Go.WideShapes Go.ChangeAt Go.RowKit
set_option autoImplicit false
set_option maxRecDepth 100000

theorem ProcNews_own : ownKnob Tryd.prog.godebug = none := by kernel_rfl
theorem ProcNews_laidOut : laidOutB Tryd.prog = true := by kernel_rfl
theorem ProcNews_glob : globChk Tryd.prog = true := by kernel_rfl
theorem ProcNews_contract (qs : List PV) (h : HasArgs [.str] qs) : CallOK Tryd.prog 3 qs (.bool true) true := by
  obtain ⟨user, rfl, w0⟩ := args3 h
  exact c3 (law30_ProcNews_true user w0)

theorem ProcNews_lifted (os : Os) (started : os.Started) (H : Type) (enc : TypeId × Value → H) :
    ReturnsInHanded {} Tryd.checked os 3 .any (fun w args => (Rows.procNewsSpec.pre enc Tryd.prog Tryd.f3 Rows.procNewsRow.domain false w args ∧ laidMetH Tryd.prog Rows.procNewsRow.laid w) ∧ sizedMet enc Tryd.prog Tryd.f3 (OpenSpec.ofChange Rows.procNewsSpec) false w args)
      (Rows.procNewsSpec.post enc Tryd.prog Tryd.f3 false true false false) := by
  refine handed_shaped (C := Tryd.checked) (X := fun w _ => laidMetH Tryd.prog Rows.procNewsRow.laid w) (fun _ _ _ hh h => h.of_heap hh) ProcNews_own started (by kernel_rfl) Tryd.func3
    (ChangeSpec.witness_shaped (enc := enc) (C := Tryd.checked) (os := os) (X := fun w _ => laidMetH Tryd.prog Rows.procNewsRow.laid w) false (World.laidAll Tryd.prog os Rows.procNewsRow.laid) #[.string ByteArray.empty] 12 (World.laidAll_os _ _ _)
      (World.shaped_of_ZipB (by kernel_rfl) (by kernel_rfl)) (by kernel_rfl) (by kernel_rfl) (by kernel_rfl)
      (by rw [MakeChecks.laidMetH_plain _ _ _ (by kernel_rfl)]; exact laidMet_laidAll _ (by kernel_rfl) (by kernel_rfl))) ?_
  intro W base args ds gs before hsh hval hW _ hwt
  exact law (P := Tryd.prog) (fn := Tryd.f3) (s := Rows.procNewsSpec) (n := 12) (tys := [.str]) ProcNews_laidOut (by kernel_rfl) (by kernel_rfl) rfl (by kernel_rfl) rfl
    (fun ds hl => by
      match ds, hl with
      | [a0], _ => exact ⟨rfl, rfl, rfl⟩) ProcNews_contract (globOK_of ProcNews_glob hsh) hwt hval hW

theorem ProcNews_row : Rows.ProcNewsSaid :=
  OpenClaim.holds_of_wide 3 Tryd.f3 rfl rfl rfl rfl rfl rfl rfl ⟨rfl, rfl, rfl, rfl, rfl⟩ rfl rfl rfl rfl rfl (by kernel_rfl) Tryd.func3 (by kernel_rfl)
    (of_decide_eq_true (by kernel_rfl)) (by unfold Func.isWrapper; first | (rw [if_pos (by decide +kernel)]; kernel_rfl) | (rw [if_neg (by decide +kernel)]; exact ⟨rfl, rfl⟩))
    (fun os started H enc _ => ProcNews_lifted os started H enc)

theorem ProcNews_proved : Rows.ProcNewsCardSaid :=
  Claim7.holds_tied_plain_at .later [] [.data, .pinned] true (true, "07299f55a087af88df34ed9a8441cfe5fb09456fd8a7df49fd7daa28008819c9") false
    ProcNews_row (fun _ h => by cases h) (by kernel_rfl) (fun _ h => by cases h) procNews_row_tie rfl ⟨rfl, rfl⟩ (by kernel_rfl) rfl
    (fun f fn hf hfn => by
      obtain rfl : f = 3 := Option.some.inj ((show Tryd.prog.funcNamed Rows.procNewsRow.func = some 3 by kernel_rfl).symm.trans hf) |>.symm
      obtain rfl : fn = Tryd.f3 := (Option.some.inj (Tryd.func3.symm.trans hfn)).symm
      exact ⟨by kernel_rfl, fun j t ht => by
        rw [Tryd.params3] at ht
        have hj : j < 1 := by
          have := (Array.getElem?_eq_some_iff.1 ht).1
          simpa using this
        match j, hj, ht with
        | 0, _, ht => exact (by obtain rfl := Option.some.inj ht; exact (show Tryd.prog.wantsStandIn 9 = false by kernel_rfl))⟩)
    (by kernel_rfl)
end Go.Proofs.YtfaobpifaobobaaDoor
