/- The statement Rows.AgentReadsCardSaid: for every input that the row admits, the Go function AgentReads returns true, does not panic, and leaves its arguments as they were; the listed package-level variables are tied to the program's text (the tie is given). No condition is added. -/
import Derived.Test.YtiliognepodhnaaGreatDoorT
import Derived.Test.YtiliognepodhnaaGreatDoorR
import Derived.Test.YtiliognepodhnaaGreatDoorP
import Derived.Test.YtiliognepodhnaaGreatDoorRows
import Derived.Test.YtiliognepodhnaaGreatDoorCards
import Derived.Test.YtiliognepodhnaaGreatDoorTie
import Derived.Test.YtiliognepodhnaaGreatDoorVmZ
import Derived.Lay
import Derived.LaidMore
import Derived.SevenTiedAt
import Derived.Stop.Joined
namespace Go.Proofs.YtiliognepodhnaaGreatDoor
open Go.Vm
open Go.ChangeShapes Go.WideShapes Go.ChangeAt Go.RowKit
set_option autoImplicit false
set_option maxRecDepth 100000

theorem bz0 : ownKnob Tryz.prog.godebug = none := by kernel_rfl
theorem be6 : laidOutB Tryz.prog = true := by kernel_rfl
theorem bw2 : cd7 Tryz.prog = true := by kernel_rfl
theorem a97 (qs : List PV) (h : HasArgs [aG3, aG5] qs) : CallOK Tryz.prog 4 qs (.bool true) true := by
  obtain ⟨a, x_, rfl, w0, w1⟩ := args4 h
  exact c4 _ (a09 a x_ w0 w1)

theorem bi7 (os : Os) (started : os.Started) (H : Type) (enc : TypeId × Value → H) :
    ReturnsInHanded {} Tryz.checked os 4 .any (fun w args => (Rows.agentReadsSpec.pre enc Tryz.prog Tryz.f4 Rows.agentReadsRow.domain false w args ∧ laidMetH Tryz.prog Rows.agentReadsRow.laid w) ∧ sizedMet enc Tryz.prog Tryz.f4 (OpenSpec.ofChange Rows.agentReadsSpec) false w args)
      (Rows.agentReadsSpec.post enc Tryz.prog Tryz.f4 false true false false) := by
  refine bF3 (C := Tryz.checked) (X := fun w _ => laidMetH Tryz.prog Rows.agentReadsRow.laid w) (fun _ _ _ hh h => h.of_heap hh) bz0 started (by kernel_rfl) Tryz.func4
    (ChangeSpec.witness_shaped (enc := enc) (C := Tryz.checked) (os := os) (X := fun w _ => laidMetH Tryz.prog Rows.agentReadsRow.laid w) false (World.laidAll Tryz.prog os Rows.agentReadsRow.laid) #[.agg #[.string ByteArray.empty, .string ByteArray.empty, .slice none 0 0, .int .i64 0, .slice none 0 0, .int .i64 0], .agg #[.int .i64 0, .string ByteArray.empty, .int .i64 0, .int .i64 0, .slice none 0 0]] 12 (World.laidAll_os _ _ _)
      (World.shaped_of_ZipB (by kernel_rfl) (by kernel_rfl)) (by kernel_rfl) (by kernel_rfl) (by kernel_rfl)
      (by rw [MakeChecks.laidMetH_plain _ _ _ (by kernel_rfl)]; exact laidMet_laidAll _ (by kernel_rfl) (by kernel_rfl))) ?_
  intro W base args ds gs before hsh hval hW hX hwt
  exact law (P := Tryz.prog) (fn := Tryz.f4) (s := Rows.agentReadsSpec) (n := 12) (tys := [aG3, aG5]) be6 (by kernel_rfl) (by kernel_rfl) rfl (by kernel_rfl) rfl
    (fun ds hl => by
      match ds, hl with
      | [a0, a1], _ => exact ⟨rfl, rfl, rfl⟩) a97 (cd8 bw2 hsh (cp6 2 (by kernel_rfl) (by kernel_rfl) (by kernel_rfl) hX) (cp7 4 (by kernel_rfl) (by kernel_rfl) (by kernel_rfl) hX)) hwt hval hW

theorem bz1 : Rows.AgentReadsSaid :=
  OpenClaim.holds_of_wide 4 Tryz.f4 rfl rfl rfl rfl rfl rfl rfl ⟨rfl, rfl, rfl, rfl, rfl⟩ rfl rfl rfl rfl rfl (by kernel_rfl) Tryz.func4 (by kernel_rfl)
    (of_decide_eq_true (by kernel_rfl)) (by unfold Func.isWrapper; first | (rw [if_pos (by decide +kernel)]; kernel_rfl) | (rw [if_neg (by decide +kernel)]; exact ⟨rfl, rfl⟩))
    (fun os started H enc _ => bi7 os started H enc)

theorem AgentReads_proved : Rows.AgentReadsCardSaid :=
  Claim7.holds_tied_plain_at .later [] [.data, .data, .data, .data, .data, .pinned] true (true, "6ea8b1c7e4f4557aa858aff885871cd972c38d8ec5bd7271d598164dbb29a31c") false
    bz1 (fun _ h => by cases h) (by kernel_rfl) (fun _ h => by cases h) agentReads_row_tie rfl ⟨rfl, rfl⟩ (by kernel_rfl) rfl
    (fun f fn hf hfn => by
      obtain rfl : f = 4 := Option.some.inj ((show Tryz.prog.funcNamed Rows.agentReadsRow.func = some 4 by kernel_rfl).symm.trans hf) |>.symm
      obtain rfl : fn = Tryz.f4 := (Option.some.inj (Tryz.func4.symm.trans hfn)).symm
      exact ⟨by kernel_rfl, fun j t ht => by
        rw [Tryz.params4] at ht
        have hj : j < 2 := by
          have := (Array.getElem?_eq_some_iff.1 ht).1
          simpa using this
        match j, hj, ht with
        | 0, _, ht => exact (by obtain rfl := Option.some.inj ht; exact (show Tryz.prog.wantsStandIn 25 = false by kernel_rfl))
        | 1, _, ht => exact (by obtain rfl := Option.some.inj ht; exact (show Tryz.prog.wantsStandIn 35 = false by kernel_rfl))⟩)
    (by kernel_rfl)
end Go.Proofs.YtiliognepodhnaaGreatDoor
