/- The statement Rows.DialPrintsCardSaid: for every input that the row admits, the Go function DialPrints returns true, does not panic, and leaves its arguments as they were; the listed package-level variables are tied to the program's text (the tie is given). No condition is added. -/
import Derived.Test.YtphblddgbbgdnaaDoorC1
import Derived.Test.YtphblddgbbgdnaaDoorR
import Derived.Test.YtphblddgbbgdnaaDoorP
import Derived.Test.YtphblddgbbgdnaaDoorRows
import Derived.Test.YtphblddgbbgdnaaDoorCards
import Derived.Test.YtphblddgbbgdnaaDoorTie
import Derived.Test.YtphblddgbbgdnaaDoorVmZ
import Derived.Lay
import Derived.LaidMore
import Derived.SevenTiedAt
import Derived.Stop.Joined
namespace Go.Proofs.YtphblddgbbgdnaaDoor
open Go.Vm
open Go.ChangeShapes Go.WideShapes Go.ChangeAt Go.RowKit
set_option autoImplicit false
set_option maxRecDepth 100000

theorem DialPrints_own : ownKnob Tryd.prog.godebug = none := by kernel_rfl
theorem DialPrints_laidOut : laidOutB Tryd.prog = true := by kernel_rfl
theorem DialPrints_glob : globChk Tryd.prog = true := by kernel_rfl
theorem DialPrints_contract (qs : List PV) (h : HasArgs [(.sl ty_api_Entry)] qs) : CallOK Tryd.prog 8 qs (.bool true) true := by
  obtain ⟨l, rfl, w0⟩ := args8 h
  exact c8 (law27_DialPrints_true l w0)

theorem DialPrints_lifted (os : Os) (started : os.Started) (H : Type) (enc : TypeId × Value → H) :
    ReturnsInHanded {} Tryd.checked os 8 .any (fun w args => (Rows.dialPrintsSpec.pre enc Tryd.prog Tryd.f8 Rows.dialPrintsRow.domain false w args ∧ laidMetH Tryd.prog Rows.dialPrintsRow.laid w) ∧ sizedMet enc Tryd.prog Tryd.f8 (OpenSpec.ofChange Rows.dialPrintsSpec) false w args)
      (Rows.dialPrintsSpec.post enc Tryd.prog Tryd.f8 false true false false) := by
  refine handed_shaped (C := Tryd.checked) (X := fun w _ => laidMetH Tryd.prog Rows.dialPrintsRow.laid w) (fun _ _ _ hh h => h.of_heap hh) DialPrints_own started (by kernel_rfl) Tryd.func8
    (ChangeSpec.witness_shaped (enc := enc) (C := Tryd.checked) (os := os) (X := fun w _ => laidMetH Tryd.prog Rows.dialPrintsRow.laid w) false (World.laidAll Tryd.prog os Rows.dialPrintsRow.laid) #[.slice none 0 0] 12 (World.laidAll_os _ _ _)
      (World.shaped_of_ZipB (by kernel_rfl) (by kernel_rfl)) (by kernel_rfl) (by kernel_rfl) (by kernel_rfl)
      (by rw [MakeChecks.laidMetH_plain _ _ _ (by kernel_rfl)]; exact laidMet_laidAll _ (by kernel_rfl) (by kernel_rfl))) ?_
  intro W base args ds gs before hsh hval hW _ hwt
  exact law (P := Tryd.prog) (fn := Tryd.f8) (s := Rows.dialPrintsSpec) (n := 12) (tys := [(.sl ty_api_Entry)]) DialPrints_laidOut (by kernel_rfl) (by kernel_rfl) rfl (by kernel_rfl) rfl
    (fun ds hl => by
      match ds, hl with
      | [a0], _ => exact ⟨rfl, rfl, rfl⟩) DialPrints_contract (globOK_of DialPrints_glob hsh) hwt hval hW

theorem DialPrints_row : Rows.DialPrintsSaid :=
  OpenClaim.holds_of_wide 8 Tryd.f8 rfl rfl rfl rfl rfl rfl rfl ⟨rfl, rfl, rfl, rfl, rfl⟩ rfl rfl rfl rfl rfl (by kernel_rfl) Tryd.func8 (by kernel_rfl)
    (of_decide_eq_true (by kernel_rfl)) (by unfold Func.isWrapper; first | (rw [if_pos (by decide +kernel)]; kernel_rfl) | (rw [if_neg (by decide +kernel)]; exact ⟨rfl, rfl⟩))
    (fun os started H enc _ => DialPrints_lifted os started H enc)

theorem DialPrints_proved : Rows.DialPrintsCardSaid :=
  Claim7.holds_tied_plain_at .later [] [.data, .pinned] true (true, "542297d33fa7f15b3e4c69358fa14f5d7b0822965856867d6801152055ef77b8") false
    DialPrints_row (fun _ h => by cases h) (by kernel_rfl) (fun _ h => by cases h) dialPrints_row_tie rfl ⟨rfl, rfl⟩ (by kernel_rfl) rfl
    (fun f fn hf hfn => by
      obtain rfl : f = 8 := Option.some.inj ((show Tryd.prog.funcNamed Rows.dialPrintsRow.func = some 8 by kernel_rfl).symm.trans hf) |>.symm
      obtain rfl : fn = Tryd.f8 := (Option.some.inj (Tryd.func8.symm.trans hfn)).symm
      exact ⟨by kernel_rfl, fun j t ht => by
        rw [Tryd.params8] at ht
        have hj : j < 1 := by
          have := (Array.getElem?_eq_some_iff.1 ht).1
          simpa using this
        match j, hj, ht with
        | 0, _, ht => exact (by obtain rfl := Option.some.inj ht; exact (show Tryd.prog.wantsStandIn 32 = false by kernel_rfl))⟩)
    (by kernel_rfl)
end Go.Proofs.YtphblddgbbgdnaaDoor
