/- The statement Rows.DialTextsCardSaid: for every input that the row admits, the Go function DialTexts returns true, does not panic, and leaves its arguments as they were; the listed package-level variables are tied to the program's text (the tie is given). No condition is added. -/
import Derived.Test.YtphblddgbbgdnaaDoorC1
import Derived.Test.YtphblddgbbgdnaaDoorR
import Derived.Test.YtphblddgbbgdnaaDoorP
import Derived.Test.YtphblddgbbgdnaaDoorRows
import Derived.Test.YtphblddgbbgdnaaDoorCards
import Derived.Test.YtphblddgbbgdnaaDoorTie
import Derived.Test.YtphblddgbbgdnaaDoorVmZ
import Derived.Lay
import Derived.LaidMore
import Derived.SevenTiedAt
import Derived.Stop.Joined
namespace Go.Proofs.YtphblddgbbgdnaaDoor
open Go.Vm
open Go.ChangeShapes Go.WideShapes Go.ChangeAt Go.RowKit
set_option autoImplicit false
set_option maxRecDepth 100000

theorem DialTexts_own : ownKnob Tryd.prog.godebug = none := by kernel_rfl
theorem DialTexts_laidOut : laidOutB Tryd.prog = true := by kernel_rfl
theorem DialTexts_glob : globChk Tryd.prog = true := by kernel_rfl
theorem DialTexts_contract (qs : List PV) (h : HasArgs [.str, ty_api_Addr] qs) : CallOK Tryd.prog 3 qs (.bool true) true := by
  obtain ⟨s_, a, rfl, w0, w1⟩ := args3 h
  exact c3 (law27_DialTexts_true s_ a w0 w1)

theorem DialTexts_lifted (os : Os) (started : os.Started) (H : Type) (enc : TypeId × Value → H) :
    ReturnsInHanded {} Tryd.checked os 3 .any (fun w args => (Rows.dialTextsSpec.pre enc Tryd.prog Tryd.f3 Rows.dialTextsRow.domain false w args ∧ laidMetH Tryd.prog Rows.dialTextsRow.laid w) ∧ sizedMet enc Tryd.prog Tryd.f3 (OpenSpec.ofChange Rows.dialTextsSpec) false w args)
      (Rows.dialTextsSpec.post enc Tryd.prog Tryd.f3 false true false false) := by
  refine handed_shaped (C := Tryd.checked) (X := fun w _ => laidMetH Tryd.prog Rows.dialTextsRow.laid w) (fun _ _ _ hh h => h.of_heap hh) DialTexts_own started (by kernel_rfl) Tryd.func3
    (ChangeSpec.witness_shaped (enc := enc) (C := Tryd.checked) (os := os) (X := fun w _ => laidMetH Tryd.prog Rows.dialTextsRow.laid w) false (World.laidAll Tryd.prog os Rows.dialTextsRow.laid) #[.string ByteArray.empty, .agg #[.string ByteArray.empty, .string ByteArray.empty, .string ByteArray.empty]] 12 (World.laidAll_os _ _ _)
      (World.shaped_of_ZipB (by kernel_rfl) (by kernel_rfl)) (by kernel_rfl) (by kernel_rfl) (by kernel_rfl)
      (by rw [MakeChecks.laidMetH_plain _ _ _ (by kernel_rfl)]; exact laidMet_laidAll _ (by kernel_rfl) (by kernel_rfl))) ?_
  intro W base args ds gs before hsh hval hW _ hwt
  exact law (P := Tryd.prog) (fn := Tryd.f3) (s := Rows.dialTextsSpec) (n := 12) (tys := [.str, ty_api_Addr]) DialTexts_laidOut (by kernel_rfl) (by kernel_rfl) rfl (by kernel_rfl) rfl
    (fun ds hl => by
      match ds, hl with
      | [a0, a1], _ => exact ⟨rfl, rfl, rfl⟩) DialTexts_contract (globOK_of DialTexts_glob hsh) hwt hval hW

theorem DialTexts_row : Rows.DialTextsSaid :=
  OpenClaim.holds_of_wide 3 Tryd.f3 rfl rfl rfl rfl rfl rfl rfl ⟨rfl, rfl, rfl, rfl, rfl⟩ rfl rfl rfl rfl rfl (by kernel_rfl) Tryd.func3 (by kernel_rfl)
    (of_decide_eq_true (by kernel_rfl)) (by unfold Func.isWrapper; first | (rw [if_pos (by decide +kernel)]; kernel_rfl) | (rw [if_neg (by decide +kernel)]; exact ⟨rfl, rfl⟩))
    (fun os started H enc _ => DialTexts_lifted os started H enc)

theorem DialTexts_proved : Rows.DialTextsCardSaid :=
  Claim7.holds_tied_plain_at .later [] [.data, .pinned] true (true, "542297d33fa7f15b3e4c69358fa14f5d7b0822965856867d6801152055ef77b8") false
    DialTexts_row (fun _ h => by cases h) (by kernel_rfl) (fun _ h => by cases h) dialTexts_row_tie rfl ⟨rfl, rfl⟩ (by kernel_rfl) rfl
    (fun f fn hf hfn => by
      obtain rfl : f = 3 := Option.some.inj ((show Tryd.prog.funcNamed Rows.dialTextsRow.func = some 3 by kernel_rfl).symm.trans hf) |>.symm
      obtain rfl : fn = Tryd.f3 := (Option.some.inj (Tryd.func3.symm.trans hfn)).symm
      exact ⟨by kernel_rfl, fun j t ht => by
        rw [Tryd.params3] at ht
        have hj : j < 2 := by
          have := (Array.getElem?_eq_some_iff.1 ht).1
          simpa using this
        match j, hj, ht with
        | 0, _, ht => exact (by obtain rfl := Option.some.inj ht; exact (show Tryd.prog.wantsStandIn 9 = false by kernel_rfl))
        | 1, _, ht => exact (by obtain rfl := Option.some.inj ht; exact (show Tryd.prog.wantsStandIn 23 = false by kernel_rfl))⟩)
    (by kernel_rfl)
end Go.Proofs.YtphblddgbbgdnaaDoor
