/- The statement Rows.AgentCallsCardSaid: for every input that the row admits, the Go function AgentCalls returns true, does not panic, and leaves its arguments as they were; the listed package-level variables are tied to the program's text (the tie is given). No condition is added. -/
import Derived.Test.YtiliognepodhnaaGreatDoorT
import Derived.Test.YtiliognepodhnaaGreatDoorP
import Derived.Test.YtiliognepodhnaaGreatDoorRows
import Derived.Test.YtiliognepodhnaaGreatDoorCards
import Derived.Test.YtiliognepodhnaaGreatDoorTie
import Derived.Test.YtiliognepodhnaaGreatDoorVmZ
import Derived.Lay
import Derived.LaidMore
import Derived.SevenTiedAt
import Derived.Stop.Joined
namespace Go.Proofs.YtiliognepodhnaaGreatDoor
open Go.Vm
open Go.ChangeShapes Go.WideShapes Go.ChangeAt Go.RowKit
set_option maxRecDepth 100000

theorem bC4 : ownKnob Tryz.prog.godebug = none := by kernel_rfl
theorem bi9 : laidOutB Tryz.prog = true := by kernel_rfl
theorem bz8 : ci8 Tryz.prog = true := by kernel_rfl
theorem bd7 (qs : List PV) (h : HasArgs [aJ6, aQ4] qs) : CallOK Tryz.prog 3 qs (.bool true) true := by
  obtain ⟨a, o, rfl, w0, w1⟩ := args3 h
  exact c3 _ (a55 a o w0 w1)

theorem bm8 (os : Os) (started : os.Started) (H : Type) (enc : TypeId × Value → H) :
    ReturnsInHanded {} Tryz.checked os 3 .any (fun w args => (Rows.agentCallsSpec.pre enc Tryz.prog Tryz.f3 Rows.agentCallsRow.domain false w args ∧ laidMetH Tryz.prog Rows.agentCallsRow.laid w) ∧ sizedMet enc Tryz.prog Tryz.f3 (OpenSpec.ofChange Rows.agentCallsSpec) false w args)
      (Rows.agentCallsSpec.post enc Tryz.prog Tryz.f3 false true false false) := by
  refine bI7 (C := Tryz.checked) (X := fun w _ => laidMetH Tryz.prog Rows.agentCallsRow.laid w) (fun _ _ _ hh h => h.of_heap hh) bC4 started (by kernel_rfl) Tryz.func3
    (ChangeSpec.witness_shaped (enc := enc) (C := Tryz.checked) (os := os) (X := fun w _ => laidMetH Tryz.prog Rows.agentCallsRow.laid w) false (World.laidAll Tryz.prog os Rows.agentCallsRow.laid) #[.agg #[.string ByteArray.empty, .string ByteArray.empty, .slice none 0 0, .int .i64 0, .slice none 0 0, .int .i64 0], .agg #[.int .i64 0, .int .i64 0, .string ByteArray.empty, .int .i64 0, .string ByteArray.empty]] 12 (World.laidAll_os _ _ _)
      (World.shaped_of_ZipB (by kernel_rfl) (by kernel_rfl)) (by kernel_rfl) (by kernel_rfl) (by kernel_rfl)
      (by rw [MakeChecks.laidMetH_plain _ _ _ (by kernel_rfl)]; exact laidMet_laidAll _ (by kernel_rfl) (by kernel_rfl))) ?_
  intro W base args ds gs before hsh hval hW hX hwt
  exact law (P := Tryz.prog) (fn := Tryz.f3) (s := Rows.agentCallsSpec) (n := 12) (tys := [aJ6, aQ4]) bi9 (by kernel_rfl) (by kernel_rfl) rfl (by kernel_rfl) rfl
    (fun ds hl => by
      match ds, hl with
      | [a0, a1], _ => exact ⟨rfl, rfl, rfl⟩) bd7 (ci9 bz8 hsh (cu6 2 (by kernel_rfl) (by kernel_rfl) (by kernel_rfl) hX) (cu7 4 (by kernel_rfl) (by kernel_rfl) (by kernel_rfl) hX)) hwt hval hW

theorem bC5 : Rows.AgentCallsSaid :=
  OpenClaim.holds_of_wide 3 Tryz.f3 rfl rfl rfl rfl rfl rfl rfl ⟨rfl, rfl, rfl, rfl, rfl⟩ rfl rfl rfl rfl rfl (by kernel_rfl) Tryz.func3 (by kernel_rfl)
    (of_decide_eq_true (by kernel_rfl)) (by unfold Func.isWrapper; first | (rw [if_pos (by decide +kernel)]; kernel_rfl) | (rw [if_neg (by decide +kernel)]; exact ⟨rfl, rfl⟩))
    (fun os started H enc _ => bm8 os started H enc)

theorem AgentCalls_proved : Rows.AgentCallsCardSaid :=
  Claim7.holds_tied_plain_at .later [] [.data, .data, .data, .data, .data, .pinned] true (true, "6ea8b1c7e4f4557aa858aff885871cd972c38d8ec5bd7271d598164dbb29a31c") false
    bC5 (fun _ h => by cases h) (by kernel_rfl) (fun _ h => by cases h) agentCalls_row_tie rfl ⟨rfl, rfl⟩ (by kernel_rfl) rfl
    (fun f fn hf hfn => by
      obtain rfl : f = 3 := Option.some.inj ((show Tryz.prog.funcNamed Rows.agentCallsRow.func = some 3 by kernel_rfl).symm.trans hf) |>.symm
      obtain rfl : fn = Tryz.f3 := (Option.some.inj (Tryz.func3.symm.trans hfn)).symm
      exact ⟨by kernel_rfl, fun j t ht => by
        rw [Tryz.params3] at ht
        have hj : j < 2 := by
          have := (Array.getElem?_eq_some_iff.1 ht).1
          simpa using this
        match j, hj, ht with
        | 0, _, ht => exact (by obtain rfl := Option.some.inj ht; exact (show Tryz.prog.wantsStandIn 25 = false by kernel_rfl))
        | 1, _, ht => exact (by obtain rfl := Option.some.inj ht; exact (show Tryz.prog.wantsStandIn 27 = false by kernel_rfl))⟩)
    (by kernel_rfl)
end Go.Proofs.YtiliognepodhnaaGreatDoor
