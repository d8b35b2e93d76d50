/- The statement Rows.NetfsBlocksCardSaid: for every input that the row admits, the Go function NetfsBlocks returns true, does not panic, and leaves its arguments as they were; the listed package-level variables are tied to the program's text (the tie is given). No condition is added. -/
import Derived.Test.YtofpfpkjdigabaaGreatDoorT
import Derived.Test.YtofpfpkjdigabaaGreatDoorR
import Derived.Test.YtofpfpkjdigabaaGreatDoorP
import Derived.Test.YtofpfpkjdigabaaGreatDoorRows
import Derived.Test.YtofpfpkjdigabaaGreatDoorCards
import Derived.Test.YtofpfpkjdigabaaGreatDoorTie
import Derived.Test.YtofpfpkjdigabaaGreatDoorVmZ
import Derived.Lay
import Derived.LaidMore
import Derived.SevenTiedAt
import Derived.Stop.Joined
namespace Go.Proofs.YtofpfpkjdigabaaGreatDoor
open Go.Vm
open Go.ChangeShapes Go.WideShapes Go.ChangeAt Go.RowKit
set_option autoImplicit false
set_option maxRecDepth 100000

theorem bp4 : ownKnob Tryz.prog.godebug = none := by kernel_rfl
theorem a68 : laidOutB Tryz.prog = true := by kernel_rfl
theorem bg9 : b83 Tryz.prog = true := by kernel_rfl
theorem a24 (qs : List PV) (h : HasArgs [aQ3, aL3] qs) : CallOK Tryz.prog 6 qs (.bool true) true := by
  obtain ⟨n, o, rfl, w0, w1⟩ := args6 h
  exact c6 _ (aV1 n o w0 w1)

theorem ba8 (os : Os) (started : os.Started) (H : Type) (enc : TypeId × Value → H) :
    ReturnsInHanded {} Tryz.checked os 6 .any (fun w args => (Rows.netfsBlocksSpec.pre enc Tryz.prog Tryz.f6 Rows.netfsBlocksRow.domain false w args ∧ laidMetH Tryz.prog Rows.netfsBlocksRow.laid w) ∧ sizedMet enc Tryz.prog Tryz.f6 (OpenSpec.ofChange Rows.netfsBlocksSpec) false w args)
      (Rows.netfsBlocksSpec.post enc Tryz.prog Tryz.f6 false true false false) := by
  refine by6 (C := Tryz.checked) (X := fun w _ => laidMetH Tryz.prog Rows.netfsBlocksRow.laid w) (fun _ _ _ hh h => h.of_heap hh) bp4 started (by kernel_rfl) Tryz.func6
    (ChangeSpec.witness_shaped (enc := enc) (C := Tryz.checked) (os := os) (X := fun w _ => laidMetH Tryz.prog Rows.netfsBlocksRow.laid w) false (World.laidAll Tryz.prog os Rows.netfsBlocksRow.laid) #[.agg #[.slice none 0 0, .int .i64 0, .slice none 0 0], .agg #[.int .i64 0, .string ByteArray.empty, .string ByteArray.empty, .int .i64 0, .int .i64 0, .int .i64 0, .int .i64 0, .string ByteArray.empty]] 12 (World.laidAll_os _ _ _)
      (World.shaped_of_ZipB (by kernel_rfl) (by kernel_rfl)) (by kernel_rfl) (by kernel_rfl) (by kernel_rfl)
      (by rw [MakeChecks.laidMetH_plain _ _ _ (by kernel_rfl)]; exact laidMet_laidAll _ (by kernel_rfl) (by kernel_rfl))) ?_
  intro W base args ds gs before hsh hval hW hX hwt
  exact law (P := Tryz.prog) (fn := Tryz.f6) (s := Rows.netfsBlocksSpec) (n := 12) (tys := [aQ3, aL3]) a68 (by kernel_rfl) (by kernel_rfl) rfl (by kernel_rfl) rfl
    (fun ds hl => by
      match ds, hl with
      | [a0, a1], _ => exact ⟨rfl, rfl, rfl⟩) a24 (b84 bg9 hsh (ci2 2 (by kernel_rfl) (by kernel_rfl) (by kernel_rfl) hX)) hwt hval hW

theorem bp5 : Rows.NetfsBlocksSaid :=
  OpenClaim.holds_of_wide 6 Tryz.f6 rfl rfl rfl rfl rfl rfl rfl ⟨rfl, rfl, rfl, rfl, rfl⟩ rfl rfl rfl rfl rfl (by kernel_rfl) Tryz.func6 (by kernel_rfl)
    (of_decide_eq_true (by kernel_rfl)) (by unfold Func.isWrapper; first | (rw [if_pos (by decide +kernel)]; kernel_rfl) | (rw [if_neg (by decide +kernel)]; exact ⟨rfl, rfl⟩))
    (fun os started H enc _ => ba8 os started H enc)

theorem NetfsBlocks_proved : Rows.NetfsBlocksCardSaid :=
  Claim7.holds_tied_plain_at .later [] [.data, .data, .data, .data, .pinned] true (true, "552fa2cde525d50f4b2be67565ea3e8bffb97ebbe426572e009847aa469b343e") false
    bp5 (fun _ h => by cases h) (by kernel_rfl) (fun _ h => by cases h) netfsBlocks_row_tie rfl ⟨rfl, rfl⟩ (by kernel_rfl) rfl
    (fun f fn hf hfn => by
      obtain rfl : f = 6 := Option.some.inj ((show Tryz.prog.funcNamed Rows.netfsBlocksRow.func = some 6 by kernel_rfl).symm.trans hf) |>.symm
      obtain rfl : fn = Tryz.f6 := (Option.some.inj (Tryz.func6.symm.trans hfn)).symm
      exact ⟨by kernel_rfl, fun j t ht => by
        rw [Tryz.params6] at ht
        have hj : j < 2 := by
          have := (Array.getElem?_eq_some_iff.1 ht).1
          simpa using this
        match j, hj, ht with
        | 0, _, ht => exact (by obtain rfl := Option.some.inj ht; exact (show Tryz.prog.wantsStandIn 25 = false by kernel_rfl))
        | 1, _, ht => exact (by obtain rfl := Option.some.inj ht; exact (show Tryz.prog.wantsStandIn 48 = false by kernel_rfl))⟩)
    (by kernel_rfl)
end Go.Proofs.YtofpfpkjdigabaaGreatDoor
