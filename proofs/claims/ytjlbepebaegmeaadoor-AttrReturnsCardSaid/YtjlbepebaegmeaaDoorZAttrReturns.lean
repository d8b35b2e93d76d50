/- The statement Rows.AttrReturnsCardSaid: for every input that the row admits, the Go function AttrReturns returns true, does not panic, and leaves its arguments as they were; the listed package-level variables are tied to the program's text (the tie is given). No condition is added. -/
import Derived.Test.YtjlbepebaegmeaaDoorC1
import Derived.Test.YtjlbepebaegmeaaDoorR
import Derived.Test.YtjlbepebaegmeaaDoorP
import Derived.Test.YtjlbepebaegmeaaDoorRows
import Derived.Test.YtjlbepebaegmeaaDoorCards
import Derived.Test.YtjlbepebaegmeaaDoorTie
import Derived.Test.YtjlbepebaegmeaaDoorVmZ
import Derived.Lay
import Derived.LaidMore
import Derived.SevenTiedAt
import Derived.Stop.Joined
namespace Go.Proofs.YtjlbepebaegmeaaDoor
open Go.Vm
open Go.ChangeShapes Go.WideShapes Go.ChangeAt Go.RowKit
set_option autoImplicit false
set_option maxRecDepth 100000

theorem AttrReturns_own : ownKnob Tryd.prog.godebug = none := by kernel_rfl
theorem AttrReturns_laidOut : laidOutB Tryd.prog = true := by kernel_rfl
theorem AttrReturns_glob : globChk Tryd.prog = true := by kernel_rfl
theorem AttrReturns_contract (qs : List PV) (h : HasArgs [(.sl ty_api_Attr)] qs) : CallOK Tryd.prog 7 qs (.bool true) true := by
  obtain ⟨l, rfl, w0⟩ := args7 h
  exact c7 (law22_AttrReturns_true l w0)

theorem AttrReturns_lifted (os : Os) (started : os.Started) (H : Type) (enc : TypeId × Value → H) :
    ReturnsInHanded {} Tryd.checked os 7 .any (fun w args => (Rows.attrReturnsSpec.pre enc Tryd.prog Tryd.f7 Rows.attrReturnsRow.domain false w args ∧ laidMetH Tryd.prog Rows.attrReturnsRow.laid w) ∧ sizedMet enc Tryd.prog Tryd.f7 (OpenSpec.ofChange Rows.attrReturnsSpec) false w args)
      (Rows.attrReturnsSpec.post enc Tryd.prog Tryd.f7 false true false false) := by
  refine handed_shaped (C := Tryd.checked) (X := fun w _ => laidMetH Tryd.prog Rows.attrReturnsRow.laid w) (fun _ _ _ hh h => h.of_heap hh) AttrReturns_own started (by kernel_rfl) Tryd.func7
    (ChangeSpec.witness_shaped (enc := enc) (C := Tryd.checked) (os := os) (X := fun w _ => laidMetH Tryd.prog Rows.attrReturnsRow.laid w) false (World.laidAll Tryd.prog os Rows.attrReturnsRow.laid) #[.slice none 0 0] 12 (World.laidAll_os _ _ _)
      (World.shaped_of_ZipB (by kernel_rfl) (by kernel_rfl)) (by kernel_rfl) (by kernel_rfl) (by kernel_rfl)
      (by rw [MakeChecks.laidMetH_plain _ _ _ (by kernel_rfl)]; exact laidMet_laidAll _ (by kernel_rfl) (by kernel_rfl))) ?_
  intro W base args ds gs before hsh hval hW _
  exact law (P := Tryd.prog) (fn := Tryd.f7) (s := Rows.attrReturnsSpec) (n := 12) (tys := [(.sl ty_api_Attr)]) AttrReturns_laidOut (by kernel_rfl) (by kernel_rfl) rfl (by kernel_rfl) rfl
    (fun ds hl => by
      match ds, hl with
      | [a0], _ => exact ⟨rfl, rfl, rfl⟩) AttrReturns_contract (globOK_of AttrReturns_glob hsh) hval hW

theorem AttrReturns_row : Rows.AttrReturnsSaid :=
  OpenClaim.holds_of_wide 7 Tryd.f7 rfl rfl rfl rfl rfl rfl rfl ⟨rfl, rfl, rfl, rfl, rfl⟩ rfl rfl rfl rfl rfl (by kernel_rfl) Tryd.func7 (by kernel_rfl)
    (of_decide_eq_true (by kernel_rfl)) (by unfold Func.isWrapper; first | (rw [if_pos (by decide +kernel)]; kernel_rfl) | (rw [if_neg (by decide +kernel)]; exact ⟨rfl, rfl⟩))
    (fun os started H enc _ => AttrReturns_lifted os started H enc)

theorem AttrReturns_proved : Rows.AttrReturnsCardSaid :=
  Claim7.holds_tied_plain_at .later [] [.data, .pinned] true (true, "b6c5f89d7ba90eaba20a114397c1efce309a75f51bd2a80627244562b0c0b742") false
    AttrReturns_row (fun _ h => by cases h) (by kernel_rfl) (fun _ h => by cases h) attrReturns_row_tie rfl ⟨rfl, rfl⟩ (by kernel_rfl) rfl
    (fun f fn hf hfn => by
      obtain rfl : f = 7 := Option.some.inj ((show Tryd.prog.funcNamed Rows.attrReturnsRow.func = some 7 by kernel_rfl).symm.trans hf) |>.symm
      obtain rfl : fn = Tryd.f7 := (Option.some.inj (Tryd.func7.symm.trans hfn)).symm
      exact ⟨by kernel_rfl, fun j t ht => by
        rw [Tryd.params7] at ht
        have hj : j < 1 := by
          have := (Array.getElem?_eq_some_iff.1 ht).1
          simpa using this
        match j, hj, ht with
        | 0, _, ht => exact (by obtain rfl := Option.some.inj ht; exact (show Tryd.prog.wantsStandIn 22 = false by kernel_rfl))⟩)
    (by kernel_rfl)
end Go.Proofs.YtjlbepebaegmeaaDoor
