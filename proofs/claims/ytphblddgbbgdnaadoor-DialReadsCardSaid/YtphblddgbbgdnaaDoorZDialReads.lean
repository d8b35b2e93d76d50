/- The statement Rows.DialReadsCardSaid: for every input that the row admits, the Go function DialReads returns true, does not panic, and leaves its arguments as they were; the listed package-level variables are tied to the program's text (the tie is given). No condition is added. -/
import Derived.Test.YtphblddgbbgdnaaDoorC1
import Derived.Test.YtphblddgbbgdnaaDoorR
import Derived.Test.YtphblddgbbgdnaaDoorP
import Derived.Test.YtphblddgbbgdnaaDoorRows
import Derived.Test.YtphblddgbbgdnaaDoorCards
import Derived.Test.YtphblddgbbgdnaaDoorTie
import Derived.Test.YtphblddgbbgdnaaDoorVmZ
import Derived.Lay
import Derived.LaidMore
import Derived.SevenTiedAt
import Derived.Stop.Joined
namespace Go.Proofs.YtphblddgbbgdnaaDoor
open Go.Vm
open Go.ChangeShapes Go.WideShapes Go.ChangeAt Go.RowKit
set_option autoImplicit false
set_option maxRecDepth 100000

theorem DialReads_own : ownKnob Tryd.prog.godebug = none := by kernel_rfl
theorem DialReads_laidOut : laidOutB Tryd.prog = true := by kernel_rfl
theorem DialReads_glob : globChk Tryd.prog = true := by kernel_rfl
theorem DialReads_contract (qs : List PV) (h : HasArgs [.str] qs) : CallOK Tryd.prog 4 qs (.bool true) true := by
  obtain ⟨s_, rfl, w0⟩ := args4 h
  exact c4 (law27_DialReads_true s_ w0)

theorem DialReads_lifted (os : Os) (started : os.Started) (H : Type) (enc : TypeId × Value → H) :
    ReturnsInHanded {} Tryd.checked os 4 .any (fun w args => (Rows.dialReadsSpec.pre enc Tryd.prog Tryd.f4 Rows.dialReadsRow.domain false w args ∧ laidMetH Tryd.prog Rows.dialReadsRow.laid w) ∧ sizedMet enc Tryd.prog Tryd.f4 (OpenSpec.ofChange Rows.dialReadsSpec) false w args)
      (Rows.dialReadsSpec.post enc Tryd.prog Tryd.f4 false true false false) := by
  refine handed_shaped (C := Tryd.checked) (X := fun w _ => laidMetH Tryd.prog Rows.dialReadsRow.laid w) (fun _ _ _ hh h => h.of_heap hh) DialReads_own started (by kernel_rfl) Tryd.func4
    (ChangeSpec.witness_shaped (enc := enc) (C := Tryd.checked) (os := os) (X := fun w _ => laidMetH Tryd.prog Rows.dialReadsRow.laid w) false (World.laidAll Tryd.prog os Rows.dialReadsRow.laid) #[.string ByteArray.empty] 12 (World.laidAll_os _ _ _)
      (World.shaped_of_ZipB (by kernel_rfl) (by kernel_rfl)) (by kernel_rfl) (by kernel_rfl) (by kernel_rfl)
      (by rw [MakeChecks.laidMetH_plain _ _ _ (by kernel_rfl)]; exact laidMet_laidAll _ (by kernel_rfl) (by kernel_rfl))) ?_
  intro W base args ds gs before hsh hval hW _ hwt
  exact law (P := Tryd.prog) (fn := Tryd.f4) (s := Rows.dialReadsSpec) (n := 12) (tys := [.str]) DialReads_laidOut (by kernel_rfl) (by kernel_rfl) rfl (by kernel_rfl) rfl
    (fun ds hl => by
      match ds, hl with
      | [a0], _ => exact ⟨rfl, rfl, rfl⟩) DialReads_contract (globOK_of DialReads_glob hsh) hwt hval hW

theorem DialReads_row : Rows.DialReadsSaid :=
  OpenClaim.holds_of_wide 4 Tryd.f4 rfl rfl rfl rfl rfl rfl rfl ⟨rfl, rfl, rfl, rfl, rfl⟩ rfl rfl rfl rfl rfl (by kernel_rfl) Tryd.func4 (by kernel_rfl)
    (of_decide_eq_true (by kernel_rfl)) (by unfold Func.isWrapper; first | (rw [if_pos (by decide +kernel)]; kernel_rfl) | (rw [if_neg (by decide +kernel)]; exact ⟨rfl, rfl⟩))
    (fun os started H enc _ => DialReads_lifted os started H enc)

theorem DialReads_proved : Rows.DialReadsCardSaid :=
  Claim7.holds_tied_plain_at .later [] [.data, .pinned] true (true, "542297d33fa7f15b3e4c69358fa14f5d7b0822965856867d6801152055ef77b8") false
    DialReads_row (fun _ h => by cases h) (by kernel_rfl) (fun _ h => by cases h) dialReads_row_tie rfl ⟨rfl, rfl⟩ (by kernel_rfl) rfl
    (fun f fn hf hfn => by
      obtain rfl : f = 4 := Option.some.inj ((show Tryd.prog.funcNamed Rows.dialReadsRow.func = some 4 by kernel_rfl).symm.trans hf) |>.symm
      obtain rfl : fn = Tryd.f4 := (Option.some.inj (Tryd.func4.symm.trans hfn)).symm
      exact ⟨by kernel_rfl, fun j t ht => by
        rw [Tryd.params4] at ht
        have hj : j < 1 := by
          have := (Array.getElem?_eq_some_iff.1 ht).1
          simpa using this
        match j, hj, ht with
        | 0, _, ht => exact (by obtain rfl := Option.some.inj ht; exact (show Tryd.prog.wantsStandIn 9 = false by kernel_rfl))⟩)
    (by kernel_rfl)
end Go.Proofs.YtphblddgbbgdnaaDoor
