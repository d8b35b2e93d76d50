/- The statement Rows.NetfsHostsCardSaid: for every input that the row admits, the Go function NetfsHosts returns true, does not panic, and leaves its arguments as they were; the listed package-level variables are tied to the program's text (the tie is given). No condition is added. -/
import Derived.Test.YtofpfpkjdigabaaGreatDoorT
import Derived.Test.YtofpfpkjdigabaaGreatDoorR
import Derived.Test.YtofpfpkjdigabaaGreatDoorP
import Derived.Test.YtofpfpkjdigabaaGreatDoorRows
import Derived.Test.YtofpfpkjdigabaaGreatDoorCards
import Derived.Test.YtofpfpkjdigabaaGreatDoorTie
import Derived.Test.YtofpfpkjdigabaaGreatDoorVmZ
import Derived.Lay
import Derived.LaidMore
import Derived.SevenTiedAt
import Derived.Stop.Joined
namespace Go.Proofs.YtofpfpkjdigabaaGreatDoor
open Go.Vm
open Go.ChangeShapes Go.WideShapes Go.ChangeAt Go.RowKit
set_option autoImplicit false
set_option maxRecDepth 100000

theorem br2 : ownKnob Tryz.prog.godebug = none := by kernel_rfl
theorem ba5 : laidOutB Tryz.prog = true := by kernel_rfl
theorem bo9 : b83 Tryz.prog = true := by kernel_rfl
theorem a65 (qs : List PV) (h : HasArgs [aQ0, aL0] qs) : CallOK Tryz.prog 7 qs (.bool true) true := by
  obtain ⟨n, o, rfl, w0, w1⟩ := args7 h
  exact c7 _ (aY7 n o w0 w1)

theorem bd8 (os : Os) (started : os.Started) (H : Type) (enc : TypeId × Value → H) :
    ReturnsInHanded {} Tryz.checked os 7 .any (fun w args => (Rows.netfsHostsSpec.pre enc Tryz.prog Tryz.f7 Rows.netfsHostsRow.domain false w args ∧ laidMetH Tryz.prog Rows.netfsHostsRow.laid w) ∧ sizedMet enc Tryz.prog Tryz.f7 (OpenSpec.ofChange Rows.netfsHostsSpec) false w args)
      (Rows.netfsHostsSpec.post enc Tryz.prog Tryz.f7 false true false false) := by
  refine by4 (C := Tryz.checked) (X := fun w _ => laidMetH Tryz.prog Rows.netfsHostsRow.laid w) (fun _ _ _ hh h => h.of_heap hh) br2 started (by kernel_rfl) Tryz.func7
    (ChangeSpec.witness_shaped (enc := enc) (C := Tryz.checked) (os := os) (X := fun w _ => laidMetH Tryz.prog Rows.netfsHostsRow.laid w) false (World.laidAll Tryz.prog os Rows.netfsHostsRow.laid) #[.agg #[.slice none 0 0, .int .i64 0, .slice none 0 0], .agg #[.int .i64 0, .string ByteArray.empty, .string ByteArray.empty, .int .i64 0, .int .i64 0, .int .i64 0, .int .i64 0, .string ByteArray.empty]] 12 (World.laidAll_os _ _ _)
      (World.shaped_of_ZipB (by kernel_rfl) (by kernel_rfl)) (by kernel_rfl) (by kernel_rfl) (by kernel_rfl)
      (by rw [MakeChecks.laidMetH_plain _ _ _ (by kernel_rfl)]; exact laidMet_laidAll _ (by kernel_rfl) (by kernel_rfl))) ?_
  intro W base args ds gs before hsh hval hW hX hwt
  exact law (P := Tryz.prog) (fn := Tryz.f7) (s := Rows.netfsHostsSpec) (n := 12) (tys := [aQ0, aL0]) ba5 (by kernel_rfl) (by kernel_rfl) rfl (by kernel_rfl) rfl
    (fun ds hl => by
      match ds, hl with
      | [a0, a1], _ => exact ⟨rfl, rfl, rfl⟩) a65 (b84 bo9 hsh (ci1 2 (by kernel_rfl) (by kernel_rfl) (by kernel_rfl) hX)) hwt hval hW

theorem br3 : Rows.NetfsHostsSaid :=
  OpenClaim.holds_of_wide 7 Tryz.f7 rfl rfl rfl rfl rfl rfl rfl ⟨rfl, rfl, rfl, rfl, rfl⟩ rfl rfl rfl rfl rfl (by kernel_rfl) Tryz.func7 (by kernel_rfl)
    (of_decide_eq_true (by kernel_rfl)) (by unfold Func.isWrapper; first | (rw [if_pos (by decide +kernel)]; kernel_rfl) | (rw [if_neg (by decide +kernel)]; exact ⟨rfl, rfl⟩))
    (fun os started H enc _ => bd8 os started H enc)

theorem NetfsHosts_proved : Rows.NetfsHostsCardSaid :=
  Claim7.holds_tied_plain_at .later [] [.data, .data, .data, .data, .pinned] true (true, "552fa2cde525d50f4b2be67565ea3e8bffb97ebbe426572e009847aa469b343e") false
    br3 (fun _ h => by cases h) (by kernel_rfl) (fun _ h => by cases h) netfsHosts_row_tie rfl ⟨rfl, rfl⟩ (by kernel_rfl) rfl
    (fun f fn hf hfn => by
      obtain rfl : f = 7 := Option.some.inj ((show Tryz.prog.funcNamed Rows.netfsHostsRow.func = some 7 by kernel_rfl).symm.trans hf) |>.symm
      obtain rfl : fn = Tryz.f7 := (Option.some.inj (Tryz.func7.symm.trans hfn)).symm
      exact ⟨by kernel_rfl, fun j t ht => by
        rw [Tryz.params7] at ht
        have hj : j < 2 := by
          have := (Array.getElem?_eq_some_iff.1 ht).1
          simpa using this
        match j, hj, ht with
        | 0, _, ht => exact (by obtain rfl := Option.some.inj ht; exact (show Tryz.prog.wantsStandIn 25 = false by kernel_rfl))
        | 1, _, ht => exact (by obtain rfl := Option.some.inj ht; exact (show Tryz.prog.wantsStandIn 48 = false by kernel_rfl))⟩)
    (by kernel_rfl)
end Go.Proofs.YtofpfpkjdigabaaGreatDoor
