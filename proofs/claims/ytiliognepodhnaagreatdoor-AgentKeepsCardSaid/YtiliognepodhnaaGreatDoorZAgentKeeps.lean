/- The statement Rows.AgentKeepsCardSaid: for every input that the row admits, the Go function AgentKeeps returns true, does not panic, and leaves its arguments as they were; the listed package-level variables are tied to the program's text (the tie is given). No condition is added. -/
import Derived.Test.YtiliognepodhnaaGreatDoorT
import Derived.Test.YtiliognepodhnaaGreatDoorP
import Derived.Test.YtiliognepodhnaaGreatDoorRows
import Derived.Test.YtiliognepodhnaaGreatDoorCards
import Derived.Test.YtiliognepodhnaaGreatDoorTie
import Derived.Test.YtiliognepodhnaaGreatDoorVmZ
import Derived.Lay
import Derived.LaidMore
import Derived.SevenTiedAt
import Derived.Stop.Joined
namespace Go.Proofs.YtiliognepodhnaaGreatDoor
open Go.Vm
open Go.ChangeShapes Go.WideShapes Go.ChangeAt Go.RowKit
set_option maxRecDepth 100000

theorem bA7 : ownKnob Tryz.prog.godebug = none := by kernel_rfl
theorem bh5 : laidOutB Tryz.prog = true := by kernel_rfl
theorem by4 : cg7 Tryz.prog = true := by kernel_rfl
theorem bc2 (qs : List PV) (h : HasArgs [.str, .str, (.sl aP5)] qs) : CallOK Tryz.prog 5 qs (.bool true) true := by
  obtain ⟨owner, seed, l, rfl, w0, w1, w2⟩ := args5 h
  exact c5 _ (a42 owner seed l w0 w1 w2)

theorem bl4 (os : Os) (started : os.Started) (H : Type) (enc : TypeId × Value → H) :
    ReturnsInHanded {} Tryz.checked os 5 .any (fun w args => (Rows.agentKeepsSpec.pre enc Tryz.prog Tryz.f5 Rows.agentKeepsRow.domain false w args ∧ laidMetH Tryz.prog Rows.agentKeepsRow.laid w) ∧ sizedMet enc Tryz.prog Tryz.f5 (OpenSpec.ofChange Rows.agentKeepsSpec) false w args)
      (Rows.agentKeepsSpec.post enc Tryz.prog Tryz.f5 false true false false) := by
  refine bH1 (C := Tryz.checked) (X := fun w _ => laidMetH Tryz.prog Rows.agentKeepsRow.laid w) (fun _ _ _ hh h => h.of_heap hh) bA7 started (by kernel_rfl) Tryz.func5
    (ChangeSpec.witness_shaped (enc := enc) (C := Tryz.checked) (os := os) (X := fun w _ => laidMetH Tryz.prog Rows.agentKeepsRow.laid w) false (World.laidAll Tryz.prog os Rows.agentKeepsRow.laid) #[.string ByteArray.empty, .string ByteArray.empty, .slice none 0 0] 12 (World.laidAll_os _ _ _)
      (World.shaped_of_ZipB (by kernel_rfl) (by kernel_rfl)) (by kernel_rfl) (by kernel_rfl) (by kernel_rfl)
      (by rw [MakeChecks.laidMetH_plain _ _ _ (by kernel_rfl)]; exact laidMet_laidAll _ (by kernel_rfl) (by kernel_rfl))) ?_
  intro W base args ds gs before hsh hval hW hX hwt
  exact law (P := Tryz.prog) (fn := Tryz.f5) (s := Rows.agentKeepsSpec) (n := 12) (tys := [.str, .str, (.sl aP5)]) bh5 (by kernel_rfl) (by kernel_rfl) rfl (by kernel_rfl) rfl
    (fun ds hl => by
      match ds, hl with
      | [a0, a1, a2], _ => exact ⟨rfl, rfl, rfl⟩) bc2 (cg8 by4 hsh (cs7 2 (by kernel_rfl) (by kernel_rfl) (by kernel_rfl) hX) (cs8 4 (by kernel_rfl) (by kernel_rfl) (by kernel_rfl) hX)) hwt hval hW

theorem bA8 : Rows.AgentKeepsSaid :=
  OpenClaim.holds_of_wide 5 Tryz.f5 rfl rfl rfl rfl rfl rfl rfl ⟨rfl, rfl, rfl, rfl, rfl⟩ rfl rfl rfl rfl rfl (by kernel_rfl) Tryz.func5 (by kernel_rfl)
    (of_decide_eq_true (by kernel_rfl)) (by unfold Func.isWrapper; first | (rw [if_pos (by decide +kernel)]; kernel_rfl) | (rw [if_neg (by decide +kernel)]; exact ⟨rfl, rfl⟩))
    (fun os started H enc _ => bl4 os started H enc)

theorem AgentKeeps_proved : Rows.AgentKeepsCardSaid :=
  Claim7.holds_tied_plain_at .later [] [.data, .data, .data, .data, .data, .pinned] true (true, "6ea8b1c7e4f4557aa858aff885871cd972c38d8ec5bd7271d598164dbb29a31c") false
    bA8 (fun _ h => by cases h) (by kernel_rfl) (fun _ h => by cases h) agentKeeps_row_tie rfl ⟨rfl, rfl⟩ (by kernel_rfl) rfl
    (fun f fn hf hfn => by
      obtain rfl : f = 5 := Option.some.inj ((show Tryz.prog.funcNamed Rows.agentKeepsRow.func = some 5 by kernel_rfl).symm.trans hf) |>.symm
      obtain rfl : fn = Tryz.f5 := (Option.some.inj (Tryz.func5.symm.trans hfn)).symm
      exact ⟨by kernel_rfl, fun j t ht => by
        rw [Tryz.params5] at ht
        have hj : j < 3 := by
          have := (Array.getElem?_eq_some_iff.1 ht).1
          simpa using this
        match j, hj, ht with
        | 0, _, ht => exact (by obtain rfl := Option.some.inj ht; exact (show Tryz.prog.wantsStandIn 9 = false by kernel_rfl))
        | 1, _, ht => exact (by obtain rfl := Option.some.inj ht; exact (show Tryz.prog.wantsStandIn 9 = false by kernel_rfl))
        | 2, _, ht => exact (by obtain rfl := Option.some.inj ht; exact (show Tryz.prog.wantsStandIn 41 = false by kernel_rfl))⟩)
    (by kernel_rfl)
end Go.Proofs.YtiliognepodhnaaGreatDoor
