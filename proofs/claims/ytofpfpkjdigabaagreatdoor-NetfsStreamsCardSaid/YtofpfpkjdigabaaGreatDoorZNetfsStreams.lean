/- The statement Rows.NetfsStreamsCardSaid: for every input that the row admits, the Go function NetfsStreams returns true, does not panic, and leaves its arguments as they were; the listed package-level variables are tied to the program's text (the tie is given). No condition is added. -/
import Derived.Test.YtofpfpkjdigabaaGreatDoorT
import Derived.Test.YtofpfpkjdigabaaGreatDoorR
import Derived.Test.YtofpfpkjdigabaaGreatDoorP
import Derived.Test.YtofpfpkjdigabaaGreatDoorRows
import Derived.Test.YtofpfpkjdigabaaGreatDoorCards
import Derived.Test.YtofpfpkjdigabaaGreatDoorTie
import Derived.Test.YtofpfpkjdigabaaGreatDoorVmZ
import Derived.Lay
import Derived.LaidMore
import Derived.SevenTiedAt
import Derived.Stop.Joined
namespace Go.Proofs.YtofpfpkjdigabaaGreatDoor
open Go.Vm
open Go.ChangeShapes Go.WideShapes Go.ChangeAt Go.RowKit
set_option autoImplicit false
set_option maxRecDepth 100000

theorem bf0 : ownKnob Tryz.prog.godebug = none := by kernel_rfl
theorem aZ7 : laidOutB Tryz.prog = true := by kernel_rfl
theorem bc1 : b24 Tryz.prog = true := by kernel_rfl
theorem aW5 (qs : List PV) (h : HasArgs [aN7, (.int .i64), .str] qs) : CallOK Tryz.prog 4 qs (.bool true) true := by
  obtain ⟨n, id, data, rfl, w0, w1, w2⟩ := args4 h
  exact c4 _ (aR3 n id data w0 w1 w2)

theorem a48 (os : Os) (started : os.Started) (H : Type) (enc : TypeId × Value → H) :
    ReturnsInHanded {} Tryz.checked os 4 .any (fun w args => (Rows.netfsStreamsSpec.pre enc Tryz.prog Tryz.f4 Rows.netfsStreamsRow.domain false w args ∧ laidMetH Tryz.prog Rows.netfsStreamsRow.laid w) ∧ sizedMet enc Tryz.prog Tryz.f4 (OpenSpec.ofChange Rows.netfsStreamsSpec) false w args)
      (Rows.netfsStreamsSpec.post enc Tryz.prog Tryz.f4 false true false false) := by
  refine bv5 (C := Tryz.checked) (X := fun w _ => laidMetH Tryz.prog Rows.netfsStreamsRow.laid w) (fun _ _ _ hh h => h.of_heap hh) bf0 started (by kernel_rfl) Tryz.func4
    (ChangeSpec.witness_shaped (enc := enc) (C := Tryz.checked) (os := os) (X := fun w _ => laidMetH Tryz.prog Rows.netfsStreamsRow.laid w) false (World.laidAll Tryz.prog os Rows.netfsStreamsRow.laid) #[.agg #[.slice none 0 0, .int .i64 0, .slice none 0 0], .int .i64 0, .string ByteArray.empty] 12 (World.laidAll_os _ _ _)
      (World.shaped_of_ZipB (by kernel_rfl) (by kernel_rfl)) (by kernel_rfl) (by kernel_rfl) (by kernel_rfl)
      (by rw [MakeChecks.laidMetH_plain _ _ _ (by kernel_rfl)]; exact laidMet_laidAll _ (by kernel_rfl) (by kernel_rfl))) ?_
  intro W base args ds gs before hsh hval hW hX hwt
  exact law (P := Tryz.prog) (fn := Tryz.f4) (s := Rows.netfsStreamsSpec) (n := 12) (tys := [aN7, (.int .i64), .str]) aZ7 (by kernel_rfl) (by kernel_rfl) rfl (by kernel_rfl) rfl
    (fun ds hl => by
      match ds, hl with
      | [a0, a1, a2], _ => exact ⟨rfl, rfl, rfl⟩) aW5 (b25 bc1 hsh (cc2 2 (by kernel_rfl) (by kernel_rfl) (by kernel_rfl) hX)) hwt hval hW

theorem bf1 : Rows.NetfsStreamsSaid :=
  OpenClaim.holds_of_wide 4 Tryz.f4 rfl rfl rfl rfl rfl rfl rfl ⟨rfl, rfl, rfl, rfl, rfl⟩ rfl rfl rfl rfl rfl (by kernel_rfl) Tryz.func4 (by kernel_rfl)
    (of_decide_eq_true (by kernel_rfl)) (by unfold Func.isWrapper; first | (rw [if_pos (by decide +kernel)]; kernel_rfl) | (rw [if_neg (by decide +kernel)]; exact ⟨rfl, rfl⟩))
    (fun os started H enc _ => a48 os started H enc)

theorem NetfsStreams_proved : Rows.NetfsStreamsCardSaid :=
  Claim7.holds_tied_plain_at .later [] [.data, .data, .data, .data, .pinned] true (true, "552fa2cde525d50f4b2be67565ea3e8bffb97ebbe426572e009847aa469b343e") false
    bf1 (fun _ h => by cases h) (by kernel_rfl) (fun _ h => by cases h) netfsStreams_row_tie rfl ⟨rfl, rfl⟩ (by kernel_rfl) rfl
    (fun f fn hf hfn => by
      obtain rfl : f = 4 := Option.some.inj ((show Tryz.prog.funcNamed Rows.netfsStreamsRow.func = some 4 by kernel_rfl).symm.trans hf) |>.symm
      obtain rfl : fn = Tryz.f4 := (Option.some.inj (Tryz.func4.symm.trans hfn)).symm
      exact ⟨by kernel_rfl, fun j t ht => by
        rw [Tryz.params4] at ht
        have hj : j < 3 := by
          have := (Array.getElem?_eq_some_iff.1 ht).1
          simpa using this
        match j, hj, ht with
        | 0, _, ht => exact (by obtain rfl := Option.some.inj ht; exact (show Tryz.prog.wantsStandIn 25 = false by kernel_rfl))
        | 1, _, ht => exact (by obtain rfl := Option.some.inj ht; exact (show Tryz.prog.wantsStandIn 3 = false by kernel_rfl))
        | 2, _, ht => exact (by obtain rfl := Option.some.inj ht; exact (show Tryz.prog.wantsStandIn 9 = false by kernel_rfl))⟩)
    (by kernel_rfl)
end Go.Proofs.YtofpfpkjdigabaaGreatDoor
