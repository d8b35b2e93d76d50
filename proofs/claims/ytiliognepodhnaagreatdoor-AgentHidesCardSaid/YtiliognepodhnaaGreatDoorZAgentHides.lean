/- The statement Rows.AgentHidesCardSaid: for every input that the row admits, the Go function AgentHides returns true, does not panic, and leaves its arguments as they were; the listed package-level variables are tied to the program's text (the tie is given). No condition is added. -/
import Derived.Test.YtiliognepodhnaaGreatDoorT
import Derived.Test.YtiliognepodhnaaGreatDoorR
import Derived.Test.YtiliognepodhnaaGreatDoorP
import Derived.Test.YtiliognepodhnaaGreatDoorRows
import Derived.Test.YtiliognepodhnaaGreatDoorCards
import Derived.Test.YtiliognepodhnaaGreatDoorTie
import Derived.Test.YtiliognepodhnaaGreatDoorVmZ
import Derived.Lay
import Derived.LaidMore
import Derived.SevenTiedAt
import Derived.Stop.Joined
namespace Go.Proofs.YtiliognepodhnaaGreatDoor
open Go.Vm
open Go.ChangeShapes Go.WideShapes Go.ChangeAt Go.RowKit
set_option autoImplicit false
set_option maxRecDepth 100000

theorem bx0 : ownKnob Tryz.prog.godebug = none := by kernel_rfl
theorem bc7 : laidOutB Tryz.prog = true := by kernel_rfl
theorem bu1 : cc6 Tryz.prog = true := by kernel_rfl
theorem a74 (qs : List PV) (h : HasArgs [aE5, .str, aE7] qs) : CallOK Tryz.prog 8 qs (.bool true) true := by
  obtain ⟨a, secret, x_, rfl, w0, w1, w2⟩ := args8 h
  exact c8 _ (aZ0 a secret x_ w0 w1 w2)

theorem bg3 (os : Os) (started : os.Started) (H : Type) (enc : TypeId × Value → H) :
    ReturnsInHanded {} Tryz.checked os 8 .any (fun w args => (Rows.agentHidesSpec.pre enc Tryz.prog Tryz.f8 Rows.agentHidesRow.domain false w args ∧ laidMetH Tryz.prog Rows.agentHidesRow.laid w) ∧ sizedMet enc Tryz.prog Tryz.f8 (OpenSpec.ofChange Rows.agentHidesSpec) false w args)
      (Rows.agentHidesSpec.post enc Tryz.prog Tryz.f8 false true false false) := by
  refine bD3 (C := Tryz.checked) (X := fun w _ => laidMetH Tryz.prog Rows.agentHidesRow.laid w) (fun _ _ _ hh h => h.of_heap hh) bx0 started (by kernel_rfl) Tryz.func8
    (ChangeSpec.witness_shaped (enc := enc) (C := Tryz.checked) (os := os) (X := fun w _ => laidMetH Tryz.prog Rows.agentHidesRow.laid w) false (World.laidAll Tryz.prog os Rows.agentHidesRow.laid) #[.agg #[.string ByteArray.empty, .string ByteArray.empty, .slice none 0 0, .int .i64 0, .slice none 0 0, .int .i64 0], .string ByteArray.empty, .agg #[.int .i64 0, .string ByteArray.empty, .int .i64 0, .int .i64 0, .slice none 0 0]] 12 (World.laidAll_os _ _ _)
      (World.shaped_of_ZipB (by kernel_rfl) (by kernel_rfl)) (by kernel_rfl) (by kernel_rfl) (by kernel_rfl)
      (by rw [MakeChecks.laidMetH_plain _ _ _ (by kernel_rfl)]; exact laidMet_laidAll _ (by kernel_rfl) (by kernel_rfl))) ?_
  intro W base args ds gs before hsh hval hW hX hwt
  exact law (P := Tryz.prog) (fn := Tryz.f8) (s := Rows.agentHidesSpec) (n := 12) (tys := [aE5, .str, aE7]) bc7 (by kernel_rfl) (by kernel_rfl) rfl (by kernel_rfl) rfl
    (fun ds hl => by
      match ds, hl with
      | [a0, a1, a2], _ => exact ⟨rfl, rfl, rfl⟩) a74 (cc7 bu1 hsh (co7 2 (by kernel_rfl) (by kernel_rfl) (by kernel_rfl) hX) (co8 4 (by kernel_rfl) (by kernel_rfl) (by kernel_rfl) hX)) hwt hval hW

theorem bx1 : Rows.AgentHidesSaid :=
  OpenClaim.holds_of_wide 8 Tryz.f8 rfl rfl rfl rfl rfl rfl rfl ⟨rfl, rfl, rfl, rfl, rfl⟩ rfl rfl rfl rfl rfl (by kernel_rfl) Tryz.func8 (by kernel_rfl)
    (of_decide_eq_true (by kernel_rfl)) (by unfold Func.isWrapper; first | (rw [if_pos (by decide +kernel)]; kernel_rfl) | (rw [if_neg (by decide +kernel)]; exact ⟨rfl, rfl⟩))
    (fun os started H enc _ => bg3 os started H enc)

theorem AgentHides_proved : Rows.AgentHidesCardSaid :=
  Claim7.holds_tied_plain_at .later [] [.data, .data, .data, .data, .data, .pinned] true (true, "6ea8b1c7e4f4557aa858aff885871cd972c38d8ec5bd7271d598164dbb29a31c") false
    bx1 (fun _ h => by cases h) (by kernel_rfl) (fun _ h => by cases h) agentHides_row_tie rfl ⟨rfl, rfl⟩ (by kernel_rfl) rfl
    (fun f fn hf hfn => by
      obtain rfl : f = 8 := Option.some.inj ((show Tryz.prog.funcNamed Rows.agentHidesRow.func = some 8 by kernel_rfl).symm.trans hf) |>.symm
      obtain rfl : fn = Tryz.f8 := (Option.some.inj (Tryz.func8.symm.trans hfn)).symm
      exact ⟨by kernel_rfl, fun j t ht => by
        rw [Tryz.params8] at ht
        have hj : j < 3 := by
          have := (Array.getElem?_eq_some_iff.1 ht).1
          simpa using this
        match j, hj, ht with
        | 0, _, ht => exact (by obtain rfl := Option.some.inj ht; exact (show Tryz.prog.wantsStandIn 25 = false by kernel_rfl))
        | 1, _, ht => exact (by obtain rfl := Option.some.inj ht; exact (show Tryz.prog.wantsStandIn 9 = false by kernel_rfl))
        | 2, _, ht => exact (by obtain rfl := Option.some.inj ht; exact (show Tryz.prog.wantsStandIn 35 = false by kernel_rfl))⟩)
    (by kernel_rfl)
end Go.Proofs.YtiliognepodhnaaGreatDoor
