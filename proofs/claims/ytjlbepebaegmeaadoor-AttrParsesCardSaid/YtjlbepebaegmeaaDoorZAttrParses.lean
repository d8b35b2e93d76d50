/- The statement Rows.AttrParsesCardSaid: for every input that the row admits, the Go function AttrParses returns true, does not panic, and leaves its arguments as they were; the listed package-level variables are tied to the program's text (the tie is given). No condition is added. -/
import Derived.Test.YtjlbepebaegmeaaDoorC1
import Derived.Test.YtjlbepebaegmeaaDoorR
import Derived.Test.YtjlbepebaegmeaaDoorP
import Derived.Test.YtjlbepebaegmeaaDoorRows
import Derived.Test.YtjlbepebaegmeaaDoorCards
import Derived.Test.YtjlbepebaegmeaaDoorTie
import Derived.Test.YtjlbepebaegmeaaDoorVmZ
import Derived.Lay
import Derived.LaidMore
import Derived.SevenTiedAt
import Derived.Stop.Joined
namespace Go.Proofs.YtjlbepebaegmeaaDoor
open Go.Vm
open Go.ChangeShapes Go.WideShapes Go.ChangeAt Go.RowKit
set_option autoImplicit false
set_option maxRecDepth 100000

theorem AttrParses_own : ownKnob Tryd.prog.godebug = none := by kernel_rfl
theorem AttrParses_laidOut : laidOutB Tryd.prog = true := by kernel_rfl
theorem AttrParses_glob : globChk Tryd.prog = true := by kernel_rfl
theorem AttrParses_contract (qs : List PV) (h : HasArgs [.str] qs) : CallOK Tryd.prog 5 qs (.bool true) true := by
  obtain ⟨s_, rfl, w0⟩ := args5 h
  exact c5 (law22_AttrParses_true s_ w0)

theorem AttrParses_lifted (os : Os) (started : os.Started) (H : Type) (enc : TypeId × Value → H) :
    ReturnsInHanded {} Tryd.checked os 5 .any (fun w args => (Rows.attrParsesSpec.pre enc Tryd.prog Tryd.f5 Rows.attrParsesRow.domain false w args ∧ laidMetH Tryd.prog Rows.attrParsesRow.laid w) ∧ sizedMet enc Tryd.prog Tryd.f5 (OpenSpec.ofChange Rows.attrParsesSpec) false w args)
      (Rows.attrParsesSpec.post enc Tryd.prog Tryd.f5 false true false false) := by
  refine handed_shaped (C := Tryd.checked) (X := fun w _ => laidMetH Tryd.prog Rows.attrParsesRow.laid w) (fun _ _ _ hh h => h.of_heap hh) AttrParses_own started (by kernel_rfl) Tryd.func5
    (ChangeSpec.witness_shaped (enc := enc) (C := Tryd.checked) (os := os) (X := fun w _ => laidMetH Tryd.prog Rows.attrParsesRow.laid w) false (World.laidAll Tryd.prog os Rows.attrParsesRow.laid) #[.string ByteArray.empty] 12 (World.laidAll_os _ _ _)
      (World.shaped_of_ZipB (by kernel_rfl) (by kernel_rfl)) (by kernel_rfl) (by kernel_rfl) (by kernel_rfl)
      (by rw [MakeChecks.laidMetH_plain _ _ _ (by kernel_rfl)]; exact laidMet_laidAll _ (by kernel_rfl) (by kernel_rfl))) ?_
  intro W base args ds gs before hsh hval hW _
  exact law (P := Tryd.prog) (fn := Tryd.f5) (s := Rows.attrParsesSpec) (n := 12) (tys := [.str]) AttrParses_laidOut (by kernel_rfl) (by kernel_rfl) rfl (by kernel_rfl) rfl
    (fun ds hl => by
      match ds, hl with
      | [a0], _ => exact ⟨rfl, rfl, rfl⟩) AttrParses_contract (globOK_of AttrParses_glob hsh) hval hW

theorem AttrParses_row : Rows.AttrParsesSaid :=
  OpenClaim.holds_of_wide 5 Tryd.f5 rfl rfl rfl rfl rfl rfl rfl ⟨rfl, rfl, rfl, rfl, rfl⟩ rfl rfl rfl rfl rfl (by kernel_rfl) Tryd.func5 (by kernel_rfl)
    (of_decide_eq_true (by kernel_rfl)) (by unfold Func.isWrapper; first | (rw [if_pos (by decide +kernel)]; kernel_rfl) | (rw [if_neg (by decide +kernel)]; exact ⟨rfl, rfl⟩))
    (fun os started H enc _ => AttrParses_lifted os started H enc)

theorem AttrParses_proved : Rows.AttrParsesCardSaid :=
  Claim7.holds_tied_plain_at .later [] [.data, .pinned] true (true, "b6c5f89d7ba90eaba20a114397c1efce309a75f51bd2a80627244562b0c0b742") false
    AttrParses_row (fun _ h => by cases h) (by kernel_rfl) (fun _ h => by cases h) attrParses_row_tie rfl ⟨rfl, rfl⟩ (by kernel_rfl) rfl
    (fun f fn hf hfn => by
      obtain rfl : f = 5 := Option.some.inj ((show Tryd.prog.funcNamed Rows.attrParsesRow.func = some 5 by kernel_rfl).symm.trans hf) |>.symm
      obtain rfl : fn = Tryd.f5 := (Option.some.inj (Tryd.func5.symm.trans hfn)).symm
      exact ⟨by kernel_rfl, fun j t ht => by
        rw [Tryd.params5] at ht
        have hj : j < 1 := by
          have := (Array.getElem?_eq_some_iff.1 ht).1
          simpa using this
        match j, hj, ht with
        | 0, _, ht => exact (by obtain rfl := Option.some.inj ht; exact (show Tryd.prog.wantsStandIn 9 = false by kernel_rfl))⟩)
    (by kernel_rfl)
end Go.Proofs.YtjlbepebaegmeaaDoor
