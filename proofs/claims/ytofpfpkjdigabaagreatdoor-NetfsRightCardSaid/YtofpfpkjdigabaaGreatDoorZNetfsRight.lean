/- The statement Rows.NetfsRightCardSaid: for every input that the row admits, the Go function NetfsRight returns true, does not panic, and leaves its arguments as they were; the listed package-level variables are tied to the program's text (the tie is given). No condition is added. -/
import Derived.Test.YtofpfpkjdigabaaGreatDoorT
import Derived.Test.YtofpfpkjdigabaaGreatDoorR
import Derived.Test.YtofpfpkjdigabaaGreatDoorP
import Derived.Test.YtofpfpkjdigabaaGreatDoorRows
import Derived.Test.YtofpfpkjdigabaaGreatDoorCards
import Derived.Test.YtofpfpkjdigabaaGreatDoorTie
import Derived.Test.YtofpfpkjdigabaaGreatDoorVmZ
import Derived.Lay
import Derived.LaidMore
import Derived.SevenTiedAt
import Derived.Stop.Joined
namespace Go.Proofs.YtofpfpkjdigabaaGreatDoor
open Go.Vm
open Go.ChangeShapes Go.WideShapes Go.ChangeAt Go.RowKit
set_option autoImplicit false
set_option maxRecDepth 100000

theorem bo2 : ownKnob Tryz.prog.godebug = none := by kernel_rfl
theorem a78 : laidOutB Tryz.prog = true := by kernel_rfl
theorem bl9 : b10 Tryz.prog = true := by kernel_rfl
theorem a40 (qs : List PV) (h : HasArgs [aN2] qs) : CallOK Tryz.prog 3 qs (.bool true) true := by
  obtain ⟨n, rfl, w0⟩ := args3 h
  exact c3 _ (aW0 n w0)

theorem bb4 (os : Os) (started : os.Started) (H : Type) (enc : TypeId × Value → H) :
    ReturnsInHanded {} Tryz.checked os 3 .any (fun w args => (Rows.netfsRightSpec.pre enc Tryz.prog Tryz.f3 Rows.netfsRightRow.domain false w args ∧ laidMetH Tryz.prog Rows.netfsRightRow.laid w) ∧ sizedMet enc Tryz.prog Tryz.f3 (OpenSpec.ofChange Rows.netfsRightSpec) false w args)
      (Rows.netfsRightSpec.post enc Tryz.prog Tryz.f3 false true false false) := by
  refine bu6 (C := Tryz.checked) (X := fun w _ => laidMetH Tryz.prog Rows.netfsRightRow.laid w) (fun _ _ _ hh h => h.of_heap hh) bo2 started (by kernel_rfl) Tryz.func3
    (ChangeSpec.witness_shaped (enc := enc) (C := Tryz.checked) (os := os) (X := fun w _ => laidMetH Tryz.prog Rows.netfsRightRow.laid w) false (World.laidAll Tryz.prog os Rows.netfsRightRow.laid) #[.agg #[.slice none 0 0, .int .i64 0, .slice none 0 0]] 12 (World.laidAll_os _ _ _)
      (World.shaped_of_ZipB (by kernel_rfl) (by kernel_rfl)) (by kernel_rfl) (by kernel_rfl) (by kernel_rfl)
      (by rw [MakeChecks.laidMetH_plain _ _ _ (by kernel_rfl)]; exact laidMet_laidAll _ (by kernel_rfl) (by kernel_rfl))) ?_
  intro W base args ds gs before hsh hval hW hX hwt
  exact law (P := Tryz.prog) (fn := Tryz.f3) (s := Rows.netfsRightSpec) (n := 12) (tys := [aN2]) a78 (by kernel_rfl) (by kernel_rfl) rfl (by kernel_rfl) rfl
    (fun ds hl => by
      match ds, hl with
      | [a0], _ => exact ⟨rfl, rfl, rfl⟩) a40 (b11 bl9 hsh (ca7 2 (by kernel_rfl) (by kernel_rfl) (by kernel_rfl) hX)) hwt hval hW

theorem bo3 : Rows.NetfsRightSaid :=
  OpenClaim.holds_of_wide 3 Tryz.f3 rfl rfl rfl rfl rfl rfl rfl ⟨rfl, rfl, rfl, rfl, rfl⟩ rfl rfl rfl rfl rfl (by kernel_rfl) Tryz.func3 (by kernel_rfl)
    (of_decide_eq_true (by kernel_rfl)) (by unfold Func.isWrapper; first | (rw [if_pos (by decide +kernel)]; kernel_rfl) | (rw [if_neg (by decide +kernel)]; exact ⟨rfl, rfl⟩))
    (fun os started H enc _ => bb4 os started H enc)

theorem NetfsRight_proved : Rows.NetfsRightCardSaid :=
  Claim7.holds_tied_plain_at .later [] [.data, .data, .data, .data, .pinned] true (true, "552fa2cde525d50f4b2be67565ea3e8bffb97ebbe426572e009847aa469b343e") false
    bo3 (fun _ h => by cases h) (by kernel_rfl) (fun _ h => by cases h) netfsRight_row_tie rfl ⟨rfl, rfl⟩ (by kernel_rfl) rfl
    (fun f fn hf hfn => by
      obtain rfl : f = 3 := Option.some.inj ((show Tryz.prog.funcNamed Rows.netfsRightRow.func = some 3 by kernel_rfl).symm.trans hf) |>.symm
      obtain rfl : fn = Tryz.f3 := (Option.some.inj (Tryz.func3.symm.trans hfn)).symm
      exact ⟨by kernel_rfl, fun j t ht => by
        rw [Tryz.params3] at ht
        have hj : j < 1 := by
          have := (Array.getElem?_eq_some_iff.1 ht).1
          simpa using this
        match j, hj, ht with
        | 0, _, ht => exact (by obtain rfl := Option.some.inj ht; exact (show Tryz.prog.wantsStandIn 25 = false by kernel_rfl))⟩)
    (by kernel_rfl)
end Go.Proofs.YtofpfpkjdigabaaGreatDoor
