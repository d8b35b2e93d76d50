/- The statement Rows.AttrSelectsCardSaid: for every input that the row admits, the Go function AttrSelects returns true, does not panic, and leaves its arguments as they were; the listed package-level variables are tied to the program's text (the tie is given). No condition is added. -/
import Derived.Test.YtjlbepebaegmeaaDoorC1
import Derived.Test.YtjlbepebaegmeaaDoorR
import Derived.Test.YtjlbepebaegmeaaDoorP
import Derived.Test.YtjlbepebaegmeaaDoorRows
import Derived.Test.YtjlbepebaegmeaaDoorCards
import Derived.Test.YtjlbepebaegmeaaDoorTie
import Derived.Test.YtjlbepebaegmeaaDoorVmZ
import Derived.Lay
import Derived.LaidMore
import Derived.SevenTiedAt
import Derived.Stop.Joined
namespace Go.Proofs.YtjlbepebaegmeaaDoor
open Go.Vm
open Go.ChangeShapes Go.WideShapes Go.ChangeAt Go.RowKit
set_option autoImplicit false
set_option maxRecDepth 100000

theorem AttrSelects_own : ownKnob Tryd.prog.godebug = none := by kernel_rfl
theorem AttrSelects_laidOut : laidOutB Tryd.prog = true := by kernel_rfl
theorem AttrSelects_glob : globChk Tryd.prog = true := by kernel_rfl
theorem AttrSelects_contract (qs : List PV) (h : HasArgs [(.sl ty_api_Attr), (.int .u8), (.int .u8)] qs) : CallOK Tryd.prog 8 qs (.bool true) true := by
  obtain ⟨l, from_, to, rfl, w0, w1, w2⟩ := args8 h
  exact c8 (law22_AttrSelects_true l from_ to w0 w1 w2)

theorem AttrSelects_lifted (os : Os) (started : os.Started) (H : Type) (enc : TypeId × Value → H) :
    ReturnsInHanded {} Tryd.checked os 8 .any (fun w args => (Rows.attrSelectsSpec.pre enc Tryd.prog Tryd.f8 Rows.attrSelectsRow.domain false w args ∧ laidMetH Tryd.prog Rows.attrSelectsRow.laid w) ∧ sizedMet enc Tryd.prog Tryd.f8 (OpenSpec.ofChange Rows.attrSelectsSpec) false w args)
      (Rows.attrSelectsSpec.post enc Tryd.prog Tryd.f8 false true false false) := by
  refine handed_shaped (C := Tryd.checked) (X := fun w _ => laidMetH Tryd.prog Rows.attrSelectsRow.laid w) (fun _ _ _ hh h => h.of_heap hh) AttrSelects_own started (by kernel_rfl) Tryd.func8
    (ChangeSpec.witness_shaped (enc := enc) (C := Tryd.checked) (os := os) (X := fun w _ => laidMetH Tryd.prog Rows.attrSelectsRow.laid w) false (World.laidAll Tryd.prog os Rows.attrSelectsRow.laid) #[.slice none 0 0, .int .u8 0, .int .u8 0] 12 (World.laidAll_os _ _ _)
      (World.shaped_of_ZipB (by kernel_rfl) (by kernel_rfl)) (by kernel_rfl) (by kernel_rfl) (by kernel_rfl)
      (by rw [MakeChecks.laidMetH_plain _ _ _ (by kernel_rfl)]; exact laidMet_laidAll _ (by kernel_rfl) (by kernel_rfl))) ?_
  intro W base args ds gs before hsh hval hW _
  exact law (P := Tryd.prog) (fn := Tryd.f8) (s := Rows.attrSelectsSpec) (n := 12) (tys := [(.sl ty_api_Attr), (.int .u8), (.int .u8)]) AttrSelects_laidOut (by kernel_rfl) (by kernel_rfl) rfl (by kernel_rfl) rfl
    (fun ds hl => by
      match ds, hl with
      | [a0, a1, a2], _ => exact ⟨rfl, rfl, rfl⟩) AttrSelects_contract (globOK_of AttrSelects_glob hsh) hval hW

theorem AttrSelects_row : Rows.AttrSelectsSaid :=
  OpenClaim.holds_of_wide 8 Tryd.f8 rfl rfl rfl rfl rfl rfl rfl ⟨rfl, rfl, rfl, rfl, rfl⟩ rfl rfl rfl rfl rfl (by kernel_rfl) Tryd.func8 (by kernel_rfl)
    (of_decide_eq_true (by kernel_rfl)) (by unfold Func.isWrapper; first | (rw [if_pos (by decide +kernel)]; kernel_rfl) | (rw [if_neg (by decide +kernel)]; exact ⟨rfl, rfl⟩))
    (fun os started H enc _ => AttrSelects_lifted os started H enc)

theorem AttrSelects_proved : Rows.AttrSelectsCardSaid :=
  Claim7.holds_tied_plain_at .later [] [.data, .pinned] true (true, "b6c5f89d7ba90eaba20a114397c1efce309a75f51bd2a80627244562b0c0b742") false
    AttrSelects_row (fun _ h => by cases h) (by kernel_rfl) (fun _ h => by cases h) attrSelects_row_tie rfl ⟨rfl, rfl⟩ (by kernel_rfl) rfl
    (fun f fn hf hfn => by
      obtain rfl : f = 8 := Option.some.inj ((show Tryd.prog.funcNamed Rows.attrSelectsRow.func = some 8 by kernel_rfl).symm.trans hf) |>.symm
      obtain rfl : fn = Tryd.f8 := (Option.some.inj (Tryd.func8.symm.trans hfn)).symm
      exact ⟨by kernel_rfl, fun j t ht => by
        rw [Tryd.params8] at ht
        have hj : j < 3 := by
          have := (Array.getElem?_eq_some_iff.1 ht).1
          simpa using this
        match j, hj, ht with
        | 0, _, ht => exact (by obtain rfl := Option.some.inj ht; exact (show Tryd.prog.wantsStandIn 22 = false by kernel_rfl))
        | 1, _, ht => exact (by obtain rfl := Option.some.inj ht; exact (show Tryd.prog.wantsStandIn 5 = false by kernel_rfl))
        | 2, _, ht => exact (by obtain rfl := Option.some.inj ht; exact (show Tryd.prog.wantsStandIn 5 = false by kernel_rfl))⟩)
    (by kernel_rfl)
end Go.Proofs.YtjlbepebaegmeaaDoor
