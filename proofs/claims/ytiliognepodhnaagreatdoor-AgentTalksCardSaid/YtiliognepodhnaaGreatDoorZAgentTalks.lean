/- The statement Rows.AgentTalksCardSaid: for every input that the row admits, the Go function AgentTalks returns true, does not panic, and leaves its arguments as they were; the listed package-level variables are tied to the program's text (the tie is given). No condition is added. -/
import Derived.Test.YtiliognepodhnaaGreatDoorT
import Derived.Test.YtiliognepodhnaaGreatDoorR
import Derived.Test.YtiliognepodhnaaGreatDoorP
import Derived.Test.YtiliognepodhnaaGreatDoorRows
import Derived.Test.YtiliognepodhnaaGreatDoorCards
import Derived.Test.YtiliognepodhnaaGreatDoorTie
import Derived.Test.YtiliognepodhnaaGreatDoorVmZ
import Derived.Lay
import Derived.LaidMore
import Derived.SevenTiedAt
import Derived.Stop.Joined
namespace Go.Proofs.YtiliognepodhnaaGreatDoor
open Go.Vm
open Go.ChangeShapes Go.WideShapes Go.ChangeAt Go.RowKit
set_option autoImplicit false
set_option maxRecDepth 100000

theorem bu4 : ownKnob Tryz.prog.godebug = none := by kernel_rfl
theorem ba5 : laidOutB Tryz.prog = true := by kernel_rfl
theorem br9 : b79 Tryz.prog = true := by kernel_rfl
theorem a41 (qs : List PV) (h : HasArgs [(.int .u8), .str, .str] qs) : CallOK Tryz.prog 6 qs (.bool true) true := by
  obtain ⟨which, x_, y, rfl, w0, w1, w2⟩ := args6 h
  exact c6 _ (aV6 which x_ y w0 w1 w2)

theorem be4 (os : Os) (started : os.Started) (H : Type) (enc : TypeId × Value → H) :
    ReturnsInHanded {} Tryz.checked os 6 .any (fun w args => (Rows.agentTalksSpec.pre enc Tryz.prog Tryz.f6 Rows.agentTalksRow.domain false w args ∧ laidMetH Tryz.prog Rows.agentTalksRow.laid w) ∧ sizedMet enc Tryz.prog Tryz.f6 (OpenSpec.ofChange Rows.agentTalksSpec) false w args)
      (Rows.agentTalksSpec.post enc Tryz.prog Tryz.f6 false true false false) := by
  refine bA7 (C := Tryz.checked) (X := fun w _ => laidMetH Tryz.prog Rows.agentTalksRow.laid w) (fun _ _ _ hh h => h.of_heap hh) bu4 started (by kernel_rfl) Tryz.func6
    (ChangeSpec.witness_shaped (enc := enc) (C := Tryz.checked) (os := os) (X := fun w _ => laidMetH Tryz.prog Rows.agentTalksRow.laid w) false (World.laidAll Tryz.prog os Rows.agentTalksRow.laid) #[.int .u8 0, .string ByteArray.empty, .string ByteArray.empty] 12 (World.laidAll_os _ _ _)
      (World.shaped_of_ZipB (by kernel_rfl) (by kernel_rfl)) (by kernel_rfl) (by kernel_rfl) (by kernel_rfl)
      (by rw [MakeChecks.laidMetH_plain _ _ _ (by kernel_rfl)]; exact laidMet_laidAll _ (by kernel_rfl) (by kernel_rfl))) ?_
  intro W base args ds gs before hsh hval hW hX hwt
  exact law (P := Tryz.prog) (fn := Tryz.f6) (s := Rows.agentTalksSpec) (n := 12) (tys := [(.int .u8), .str, .str]) ba5 (by kernel_rfl) (by kernel_rfl) rfl (by kernel_rfl) rfl
    (fun ds hl => by
      match ds, hl with
      | [a0, a1, a2], _ => exact ⟨rfl, rfl, rfl⟩) a41 (b80 br9 hsh (cj9 2 (by kernel_rfl) (by kernel_rfl) (by kernel_rfl) hX) (ck0 4 (by kernel_rfl) (by kernel_rfl) (by kernel_rfl) hX)) hwt hval hW

theorem bu5 : Rows.AgentTalksSaid :=
  OpenClaim.holds_of_wide 6 Tryz.f6 rfl rfl rfl rfl rfl rfl rfl ⟨rfl, rfl, rfl, rfl, rfl⟩ rfl rfl rfl rfl rfl (by kernel_rfl) Tryz.func6 (by kernel_rfl)
    (of_decide_eq_true (by kernel_rfl)) (by unfold Func.isWrapper; first | (rw [if_pos (by decide +kernel)]; kernel_rfl) | (rw [if_neg (by decide +kernel)]; exact ⟨rfl, rfl⟩))
    (fun os started H enc _ => be4 os started H enc)

theorem AgentTalks_proved : Rows.AgentTalksCardSaid :=
  Claim7.holds_tied_plain_at .later [] [.data, .data, .data, .data, .data, .pinned] true (true, "6ea8b1c7e4f4557aa858aff885871cd972c38d8ec5bd7271d598164dbb29a31c") false
    bu5 (fun _ h => by cases h) (by kernel_rfl) (fun _ h => by cases h) agentTalks_row_tie rfl ⟨rfl, rfl⟩ (by kernel_rfl) rfl
    (fun f fn hf hfn => by
      obtain rfl : f = 6 := Option.some.inj ((show Tryz.prog.funcNamed Rows.agentTalksRow.func = some 6 by kernel_rfl).symm.trans hf) |>.symm
      obtain rfl : fn = Tryz.f6 := (Option.some.inj (Tryz.func6.symm.trans hfn)).symm
      exact ⟨by kernel_rfl, fun j t ht => by
        rw [Tryz.params6] at ht
        have hj : j < 3 := by
          have := (Array.getElem?_eq_some_iff.1 ht).1
          simpa using this
        match j, hj, ht with
        | 0, _, ht => exact (by obtain rfl := Option.some.inj ht; exact (show Tryz.prog.wantsStandIn 5 = false by kernel_rfl))
        | 1, _, ht => exact (by obtain rfl := Option.some.inj ht; exact (show Tryz.prog.wantsStandIn 9 = false by kernel_rfl))
        | 2, _, ht => exact (by obtain rfl := Option.some.inj ht; exact (show Tryz.prog.wantsStandIn 9 = false by kernel_rfl))⟩)
    (by kernel_rfl)
end Go.Proofs.YtiliognepodhnaaGreatDoor
