/- The statement Rows.DialSettlesCardSaid: for every input that the row admits, the Go function DialSettles returns true, does not panic, and leaves its arguments as they were; the listed package-level variables are tied to the program's text (the tie is given). No condition is added. -/
import Derived.Test.YtphblddgbbgdnaaDoorC1
import Derived.Test.YtphblddgbbgdnaaDoorR
import Derived.Test.YtphblddgbbgdnaaDoorP
import Derived.Test.YtphblddgbbgdnaaDoorRows
import Derived.Test.YtphblddgbbgdnaaDoorCards
import Derived.Test.YtphblddgbbgdnaaDoorTie
import Derived.Test.YtphblddgbbgdnaaDoorVmZ
import Derived.Lay
import Derived.LaidMore
import Derived.SevenTiedAt
import Derived.Stop.Joined
namespace Go.Proofs.YtphblddgbbgdnaaDoor
open Go.Vm
open Go.ChangeShapes Go.WideShapes Go.ChangeAt Go.RowKit
set_option autoImplicit false
set_option maxRecDepth 100000

theorem DialSettles_own : ownKnob Tryd.prog.godebug = none := by kernel_rfl
theorem DialSettles_laidOut : laidOutB Tryd.prog = true := by kernel_rfl
theorem DialSettles_glob : globChk Tryd.prog = true := by kernel_rfl
theorem DialSettles_contract (qs : List PV) (h : HasArgs [(.sl ty_api_Entry), .str, ty_api_Addr] qs) : CallOK Tryd.prog 7 qs (.bool true) true := by
  obtain ⟨l, host, a, rfl, w0, w1, w2⟩ := args7 h
  exact c7 (law27_DialSettles_true l host a w0 w1 w2)

theorem DialSettles_lifted (os : Os) (started : os.Started) (H : Type) (enc : TypeId × Value → H) :
    ReturnsInHanded {} Tryd.checked os 7 .any (fun w args => (Rows.dialSettlesSpec.pre enc Tryd.prog Tryd.f7 Rows.dialSettlesRow.domain false w args ∧ laidMetH Tryd.prog Rows.dialSettlesRow.laid w) ∧ sizedMet enc Tryd.prog Tryd.f7 (OpenSpec.ofChange Rows.dialSettlesSpec) false w args)
      (Rows.dialSettlesSpec.post enc Tryd.prog Tryd.f7 false true false false) := by
  refine handed_shaped (C := Tryd.checked) (X := fun w _ => laidMetH Tryd.prog Rows.dialSettlesRow.laid w) (fun _ _ _ hh h => h.of_heap hh) DialSettles_own started (by kernel_rfl) Tryd.func7
    (ChangeSpec.witness_shaped (enc := enc) (C := Tryd.checked) (os := os) (X := fun w _ => laidMetH Tryd.prog Rows.dialSettlesRow.laid w) false (World.laidAll Tryd.prog os Rows.dialSettlesRow.laid) #[.slice none 0 0, .string ByteArray.empty, .agg #[.string ByteArray.empty, .string ByteArray.empty, .string ByteArray.empty]] 12 (World.laidAll_os _ _ _)
      (World.shaped_of_ZipB (by kernel_rfl) (by kernel_rfl)) (by kernel_rfl) (by kernel_rfl) (by kernel_rfl)
      (by rw [MakeChecks.laidMetH_plain _ _ _ (by kernel_rfl)]; exact laidMet_laidAll _ (by kernel_rfl) (by kernel_rfl))) ?_
  intro W base args ds gs before hsh hval hW _ hwt
  exact law (P := Tryd.prog) (fn := Tryd.f7) (s := Rows.dialSettlesSpec) (n := 12) (tys := [(.sl ty_api_Entry), .str, ty_api_Addr]) DialSettles_laidOut (by kernel_rfl) (by kernel_rfl) rfl (by kernel_rfl) rfl
    (fun ds hl => by
      match ds, hl with
      | [a0, a1, a2], _ => exact ⟨rfl, rfl, rfl⟩) DialSettles_contract (globOK_of DialSettles_glob hsh) hwt hval hW

theorem DialSettles_row : Rows.DialSettlesSaid :=
  OpenClaim.holds_of_wide 7 Tryd.f7 rfl rfl rfl rfl rfl rfl rfl ⟨rfl, rfl, rfl, rfl, rfl⟩ rfl rfl rfl rfl rfl (by kernel_rfl) Tryd.func7 (by kernel_rfl)
    (of_decide_eq_true (by kernel_rfl)) (by unfold Func.isWrapper; first | (rw [if_pos (by decide +kernel)]; kernel_rfl) | (rw [if_neg (by decide +kernel)]; exact ⟨rfl, rfl⟩))
    (fun os started H enc _ => DialSettles_lifted os started H enc)

theorem DialSettles_proved : Rows.DialSettlesCardSaid :=
  Claim7.holds_tied_plain_at .later [] [.data, .pinned] true (true, "542297d33fa7f15b3e4c69358fa14f5d7b0822965856867d6801152055ef77b8") false
    DialSettles_row (fun _ h => by cases h) (by kernel_rfl) (fun _ h => by cases h) dialSettles_row_tie rfl ⟨rfl, rfl⟩ (by kernel_rfl) rfl
    (fun f fn hf hfn => by
      obtain rfl : f = 7 := Option.some.inj ((show Tryd.prog.funcNamed Rows.dialSettlesRow.func = some 7 by kernel_rfl).symm.trans hf) |>.symm
      obtain rfl : fn = Tryd.f7 := (Option.some.inj (Tryd.func7.symm.trans hfn)).symm
      exact ⟨by kernel_rfl, fun j t ht => by
        rw [Tryd.params7] at ht
        have hj : j < 3 := by
          have := (Array.getElem?_eq_some_iff.1 ht).1
          simpa using this
        match j, hj, ht with
        | 0, _, ht => exact (by obtain rfl := Option.some.inj ht; exact (show Tryd.prog.wantsStandIn 32 = false by kernel_rfl))
        | 1, _, ht => exact (by obtain rfl := Option.some.inj ht; exact (show Tryd.prog.wantsStandIn 9 = false by kernel_rfl))
        | 2, _, ht => exact (by obtain rfl := Option.some.inj ht; exact (show Tryd.prog.wantsStandIn 23 = false by kernel_rfl))⟩)
    (by kernel_rfl)
end Go.Proofs.YtphblddgbbgdnaaDoor
