/- The statement Rows.DialTranslatesCardSaid: for every input that the row admits, the Go function DialTranslates returns true, does not panic, and leaves its arguments as they were; the listed package-level variables are tied to the program's text (the tie is given). No condition is added. -/
import Derived.Test.YtphblddgbbgdnaaDoorC1
import Derived.Test.YtphblddgbbgdnaaDoorR
import Derived.Test.YtphblddgbbgdnaaDoorP
import Derived.Test.YtphblddgbbgdnaaDoorRows
import Derived.Test.YtphblddgbbgdnaaDoorCards
import Derived.Test.YtphblddgbbgdnaaDoorTie
import Derived.Test.YtphblddgbbgdnaaDoorVmZ
import Derived.Lay
import Derived.LaidMore
import Derived.SevenTiedAt
import Derived.Stop.Joined
namespace Go.Proofs.YtphblddgbbgdnaaDoor
open Go.Vm
open Go.ChangeShapes Go.WideShapes Go.ChangeAt Go.RowKit
set_option autoImplicit false
set_option maxRecDepth 100000

theorem DialTranslates_own : ownKnob Tryd.prog.godebug = none := by kernel_rfl
theorem DialTranslates_laidOut : laidOutB Tryd.prog = true := by kernel_rfl
theorem DialTranslates_glob : globChk Tryd.prog = true := by kernel_rfl
theorem DialTranslates_contract (qs : List PV) (h : HasArgs [(.sl ty_api_Entry), .str, ty_api_Addr] qs) : CallOK Tryd.prog 6 qs (.bool true) true := by
  obtain ⟨l, host, a, rfl, w0, w1, w2⟩ := args6 h
  exact c6 (law27_DialTranslates_true l host a w0 w1 w2)

theorem DialTranslates_lifted (os : Os) (started : os.Started) (H : Type) (enc : TypeId × Value → H) :
    ReturnsInHanded {} Tryd.checked os 6 .any (fun w args => (Rows.dialTranslatesSpec.pre enc Tryd.prog Tryd.f6 Rows.dialTranslatesRow.domain false w args ∧ laidMetH Tryd.prog Rows.dialTranslatesRow.laid w) ∧ sizedMet enc Tryd.prog Tryd.f6 (OpenSpec.ofChange Rows.dialTranslatesSpec) false w args)
      (Rows.dialTranslatesSpec.post enc Tryd.prog Tryd.f6 false true false false) := by
  refine handed_shaped (C := Tryd.checked) (X := fun w _ => laidMetH Tryd.prog Rows.dialTranslatesRow.laid w) (fun _ _ _ hh h => h.of_heap hh) DialTranslates_own started (by kernel_rfl) Tryd.func6
    (ChangeSpec.witness_shaped (enc := enc) (C := Tryd.checked) (os := os) (X := fun w _ => laidMetH Tryd.prog Rows.dialTranslatesRow.laid w) false (World.laidAll Tryd.prog os Rows.dialTranslatesRow.laid) #[.slice none 0 0, .string ByteArray.empty, .agg #[.string ByteArray.empty, .string ByteArray.empty, .string ByteArray.empty]] 12 (World.laidAll_os _ _ _)
      (World.shaped_of_ZipB (by kernel_rfl) (by kernel_rfl)) (by kernel_rfl) (by kernel_rfl) (by kernel_rfl)
      (by rw [MakeChecks.laidMetH_plain _ _ _ (by kernel_rfl)]; exact laidMet_laidAll _ (by kernel_rfl) (by kernel_rfl))) ?_
  intro W base args ds gs before hsh hval hW _ hwt
  exact law (P := Tryd.prog) (fn := Tryd.f6) (s := Rows.dialTranslatesSpec) (n := 12) (tys := [(.sl ty_api_Entry), .str, ty_api_Addr]) DialTranslates_laidOut (by kernel_rfl) (by kernel_rfl) rfl (by kernel_rfl) rfl
    (fun ds hl => by
      match ds, hl with
      | [a0, a1, a2], _ => exact ⟨rfl, rfl, rfl⟩) DialTranslates_contract (globOK_of DialTranslates_glob hsh) hwt hval hW

theorem DialTranslates_row : Rows.DialTranslatesSaid :=
  OpenClaim.holds_of_wide 6 Tryd.f6 rfl rfl rfl rfl rfl rfl rfl ⟨rfl, rfl, rfl, rfl, rfl⟩ rfl rfl rfl rfl rfl (by kernel_rfl) Tryd.func6 (by kernel_rfl)
    (of_decide_eq_true (by kernel_rfl)) (by unfold Func.isWrapper; first | (rw [if_pos (by decide +kernel)]; kernel_rfl) | (rw [if_neg (by decide +kernel)]; exact ⟨rfl, rfl⟩))
    (fun os started H enc _ => DialTranslates_lifted os started H enc)

theorem DialTranslates_proved : Rows.DialTranslatesCardSaid :=
  Claim7.holds_tied_plain_at .later [] [.data, .pinned] true (true, "542297d33fa7f15b3e4c69358fa14f5d7b0822965856867d6801152055ef77b8") false
    DialTranslates_row (fun _ h => by cases h) (by kernel_rfl) (fun _ h => by cases h) dialTranslates_row_tie rfl ⟨rfl, rfl⟩ (by kernel_rfl) rfl
    (fun f fn hf hfn => by
      obtain rfl : f = 6 := Option.some.inj ((show Tryd.prog.funcNamed Rows.dialTranslatesRow.func = some 6 by kernel_rfl).symm.trans hf) |>.symm
      obtain rfl : fn = Tryd.f6 := (Option.some.inj (Tryd.func6.symm.trans hfn)).symm
      exact ⟨by kernel_rfl, fun j t ht => by
        rw [Tryd.params6] at ht
        have hj : j < 3 := by
          have := (Array.getElem?_eq_some_iff.1 ht).1
          simpa using this
        match j, hj, ht with
        | 0, _, ht => exact (by obtain rfl := Option.some.inj ht; exact (show Tryd.prog.wantsStandIn 32 = false by kernel_rfl))
        | 1, _, ht => exact (by obtain rfl := Option.some.inj ht; exact (show Tryd.prog.wantsStandIn 9 = false by kernel_rfl))
        | 2, _, ht => exact (by obtain rfl := Option.some.inj ht; exact (show Tryd.prog.wantsStandIn 23 = false by kernel_rfl))⟩)
    (by kernel_rfl)
end Go.Proofs.YtphblddgbbgdnaaDoor
