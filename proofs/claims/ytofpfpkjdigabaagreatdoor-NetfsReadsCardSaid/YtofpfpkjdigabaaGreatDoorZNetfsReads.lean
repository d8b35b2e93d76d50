/- The statement Rows.NetfsReadsCardSaid: for every input that the row admits, the Go function NetfsReads returns true, does not panic, and leaves its arguments as they were; the listed package-level variables are tied to the program's text (the tie is given). No condition is added. -/
import Derived.Test.YtofpfpkjdigabaaGreatDoorT
import Derived.Test.YtofpfpkjdigabaaGreatDoorR
import Derived.Test.YtofpfpkjdigabaaGreatDoorP
import Derived.Test.YtofpfpkjdigabaaGreatDoorRows
import Derived.Test.YtofpfpkjdigabaaGreatDoorCards
import Derived.Test.YtofpfpkjdigabaaGreatDoorTie
import Derived.Test.YtofpfpkjdigabaaGreatDoorVmZ
import Derived.Lay
import Derived.LaidMore
import Derived.SevenTiedAt
import Derived.Stop.Joined
namespace Go.Proofs.YtofpfpkjdigabaaGreatDoor
open Go.Vm
open Go.ChangeShapes Go.WideShapes Go.ChangeAt Go.RowKit
set_option autoImplicit false
set_option maxRecDepth 100000

theorem bp7 : ownKnob Tryz.prog.godebug = none := by kernel_rfl
theorem a91 : laidOutB Tryz.prog = true := by kernel_rfl
theorem bn4 : b39 Tryz.prog = true := by kernel_rfl
theorem a54 (qs : List PV) (h : HasArgs [aP2, .str, (.int .i64), .str] qs) : CallOK Tryz.prog 8 qs (.bool true) true := by
  obtain ⟨n, host, id, name, rfl, w0, w1, w2, w3⟩ := args8 h
  exact c8 _ (aX9 n host id name w0 w1 w2 w3)

theorem bc3 (os : Os) (started : os.Started) (H : Type) (enc : TypeId × Value → H) :
    ReturnsInHanded {} Tryz.checked os 8 .any (fun w args => (Rows.netfsReadsSpec.pre enc Tryz.prog Tryz.f8 Rows.netfsReadsRow.domain false w args ∧ laidMetH Tryz.prog Rows.netfsReadsRow.laid w) ∧ sizedMet enc Tryz.prog Tryz.f8 (OpenSpec.ofChange Rows.netfsReadsSpec) false w args)
      (Rows.netfsReadsSpec.post enc Tryz.prog Tryz.f8 false true false false) := by
  refine bv8 (C := Tryz.checked) (X := fun w _ => laidMetH Tryz.prog Rows.netfsReadsRow.laid w) (fun _ _ _ hh h => h.of_heap hh) bp7 started (by kernel_rfl) Tryz.func8
    (ChangeSpec.witness_shaped (enc := enc) (C := Tryz.checked) (os := os) (X := fun w _ => laidMetH Tryz.prog Rows.netfsReadsRow.laid w) false (World.laidAll Tryz.prog os Rows.netfsReadsRow.laid) #[.agg #[.slice none 0 0, .int .i64 0, .slice none 0 0], .string ByteArray.empty, .int .i64 0, .string ByteArray.empty] 12 (World.laidAll_os _ _ _)
      (World.shaped_of_ZipB (by kernel_rfl) (by kernel_rfl)) (by kernel_rfl) (by kernel_rfl) (by kernel_rfl)
      (by rw [MakeChecks.laidMetH_plain _ _ _ (by kernel_rfl)]; exact laidMet_laidAll _ (by kernel_rfl) (by kernel_rfl))) ?_
  intro W base args ds gs before hsh hval hW hX hwt
  exact law (P := Tryz.prog) (fn := Tryz.f8) (s := Rows.netfsReadsSpec) (n := 12) (tys := [aP2, .str, (.int .i64), .str]) a91 (by kernel_rfl) (by kernel_rfl) rfl (by kernel_rfl) rfl
    (fun ds hl => by
      match ds, hl with
      | [a0, a1, a2, a3], _ => exact ⟨rfl, rfl, rfl⟩) a54 (b40 bn4 hsh (ce3 2 (by kernel_rfl) (by kernel_rfl) (by kernel_rfl) hX)) hwt hval hW

theorem bp8 : Rows.NetfsReadsSaid :=
  OpenClaim.holds_of_wide 8 Tryz.f8 rfl rfl rfl rfl rfl rfl rfl ⟨rfl, rfl, rfl, rfl, rfl⟩ rfl rfl rfl rfl rfl (by kernel_rfl) Tryz.func8 (by kernel_rfl)
    (of_decide_eq_true (by kernel_rfl)) (by unfold Func.isWrapper; first | (rw [if_pos (by decide +kernel)]; kernel_rfl) | (rw [if_neg (by decide +kernel)]; exact ⟨rfl, rfl⟩))
    (fun os started H enc _ => bc3 os started H enc)

theorem NetfsReads_proved : Rows.NetfsReadsCardSaid :=
  Claim7.holds_tied_plain_at .later [] [.data, .data, .data, .data, .pinned] true (true, "552fa2cde525d50f4b2be67565ea3e8bffb97ebbe426572e009847aa469b343e") false
    bp8 (fun _ h => by cases h) (by kernel_rfl) (fun _ h => by cases h) netfsReads_row_tie rfl ⟨rfl, rfl⟩ (by kernel_rfl) rfl
    (fun f fn hf hfn => by
      obtain rfl : f = 8 := Option.some.inj ((show Tryz.prog.funcNamed Rows.netfsReadsRow.func = some 8 by kernel_rfl).symm.trans hf) |>.symm
      obtain rfl : fn = Tryz.f8 := (Option.some.inj (Tryz.func8.symm.trans hfn)).symm
      exact ⟨by kernel_rfl, fun j t ht => by
        rw [Tryz.params8] at ht
        have hj : j < 4 := by
          have := (Array.getElem?_eq_some_iff.1 ht).1
          simpa using this
        match j, hj, ht with
        | 0, _, ht => exact (by obtain rfl := Option.some.inj ht; exact (show Tryz.prog.wantsStandIn 25 = false by kernel_rfl))
        | 1, _, ht => exact (by obtain rfl := Option.some.inj ht; exact (show Tryz.prog.wantsStandIn 9 = false by kernel_rfl))
        | 2, _, ht => exact (by obtain rfl := Option.some.inj ht; exact (show Tryz.prog.wantsStandIn 3 = false by kernel_rfl))
        | 3, _, ht => exact (by obtain rfl := Option.some.inj ht; exact (show Tryz.prog.wantsStandIn 9 = false by kernel_rfl))⟩)
    (by kernel_rfl)
end Go.Proofs.YtofpfpkjdigabaaGreatDoor
