/- The statement Rows.AttrFindsCardSaid: for every input that the row admits, the Go function AttrFinds returns true, does not panic, and leaves its arguments as they were; the listed package-level variables are tied to the program's text (the tie is given). No condition is added. -/
import Derived.Test.YtjlbepebaegmeaaDoorC1
import Derived.Test.YtjlbepebaegmeaaDoorR
import Derived.Test.YtjlbepebaegmeaaDoorP
import Derived.Test.YtjlbepebaegmeaaDoorRows
import Derived.Test.YtjlbepebaegmeaaDoorCards
import Derived.Test.YtjlbepebaegmeaaDoorTie
import Derived.Test.YtjlbepebaegmeaaDoorVmZ
import Derived.Lay
import Derived.LaidMore
import Derived.SevenTiedAt
import Derived.Stop.Joined
namespace Go.Proofs.YtjlbepebaegmeaaDoor
open Go.Vm
open Go.ChangeShapes Go.WideShapes Go.ChangeAt Go.RowKit
set_option autoImplicit false
set_option maxRecDepth 100000

theorem AttrFinds_own : ownKnob Tryd.prog.godebug = none := by kernel_rfl
theorem AttrFinds_laidOut : laidOutB Tryd.prog = true := by kernel_rfl
theorem AttrFinds_glob : globChk Tryd.prog = true := by kernel_rfl
theorem AttrFinds_contract (qs : List PV) (h : HasArgs [(.sl ty_api_Attr), ty_Str_Str, .str] qs) : CallOK Tryd.prog 10 qs (.bool true) true := by
  obtain ⟨l, name, value, rfl, w0, w1, w2⟩ := args10 h
  exact c10 (law22_AttrFinds_true l name value w0 w1 w2)

theorem AttrFinds_lifted (os : Os) (started : os.Started) (H : Type) (enc : TypeId × Value → H) :
    ReturnsInHanded {} Tryd.checked os 10 .any (fun w args => (Rows.attrFindsSpec.pre enc Tryd.prog Tryd.f10 Rows.attrFindsRow.domain false w args ∧ laidMetH Tryd.prog Rows.attrFindsRow.laid w) ∧ sizedMet enc Tryd.prog Tryd.f10 (OpenSpec.ofChange Rows.attrFindsSpec) false w args)
      (Rows.attrFindsSpec.post enc Tryd.prog Tryd.f10 false true false false) := by
  refine handed_shaped (C := Tryd.checked) (X := fun w _ => laidMetH Tryd.prog Rows.attrFindsRow.laid w) (fun _ _ _ hh h => h.of_heap hh) AttrFinds_own started (by kernel_rfl) Tryd.func10
    (ChangeSpec.witness_shaped (enc := enc) (C := Tryd.checked) (os := os) (X := fun w _ => laidMetH Tryd.prog Rows.attrFindsRow.laid w) false (World.laidAll Tryd.prog os Rows.attrFindsRow.laid) #[.slice none 0 0, .agg #[.string ByteArray.empty, .string ByteArray.empty], .string ByteArray.empty] 12 (World.laidAll_os _ _ _)
      (World.shaped_of_ZipB (by kernel_rfl) (by kernel_rfl)) (by kernel_rfl) (by kernel_rfl) (by kernel_rfl)
      (by rw [MakeChecks.laidMetH_plain _ _ _ (by kernel_rfl)]; exact laidMet_laidAll _ (by kernel_rfl) (by kernel_rfl))) ?_
  intro W base args ds gs before hsh hval hW _
  exact law (P := Tryd.prog) (fn := Tryd.f10) (s := Rows.attrFindsSpec) (n := 12) (tys := [(.sl ty_api_Attr), ty_Str_Str, .str]) AttrFinds_laidOut (by kernel_rfl) (by kernel_rfl) rfl (by kernel_rfl) rfl
    (fun ds hl => by
      match ds, hl with
      | [a0, a1, a2], _ => exact ⟨rfl, rfl, rfl⟩) AttrFinds_contract (globOK_of AttrFinds_glob hsh) hval hW

theorem AttrFinds_row : Rows.AttrFindsSaid :=
  OpenClaim.holds_of_wide 10 Tryd.f10 rfl rfl rfl rfl rfl rfl rfl ⟨rfl, rfl, rfl, rfl, rfl⟩ rfl rfl rfl rfl rfl (by kernel_rfl) Tryd.func10 (by kernel_rfl)
    (of_decide_eq_true (by kernel_rfl)) (by unfold Func.isWrapper; first | (rw [if_pos (by decide +kernel)]; kernel_rfl) | (rw [if_neg (by decide +kernel)]; exact ⟨rfl, rfl⟩))
    (fun os started H enc _ => AttrFinds_lifted os started H enc)

theorem AttrFinds_proved : Rows.AttrFindsCardSaid :=
  Claim7.holds_tied_plain_at .later [] [.data, .pinned] true (true, "b6c5f89d7ba90eaba20a114397c1efce309a75f51bd2a80627244562b0c0b742") false
    AttrFinds_row (fun _ h => by cases h) (by kernel_rfl) (fun _ h => by cases h) attrFinds_row_tie rfl ⟨rfl, rfl⟩ (by kernel_rfl) rfl
    (fun f fn hf hfn => by
      obtain rfl : f = 10 := Option.some.inj ((show Tryd.prog.funcNamed Rows.attrFindsRow.func = some 10 by kernel_rfl).symm.trans hf) |>.symm
      obtain rfl : fn = Tryd.f10 := (Option.some.inj (Tryd.func10.symm.trans hfn)).symm
      exact ⟨by kernel_rfl, fun j t ht => by
        rw [Tryd.params10] at ht
        have hj : j < 3 := by
          have := (Array.getElem?_eq_some_iff.1 ht).1
          simpa using this
        match j, hj, ht with
        | 0, _, ht => exact (by obtain rfl := Option.some.inj ht; exact (show Tryd.prog.wantsStandIn 22 = false by kernel_rfl))
        | 1, _, ht => exact (by obtain rfl := Option.some.inj ht; exact (show Tryd.prog.wantsStandIn 42 = false by kernel_rfl))
        | 2, _, ht => exact (by obtain rfl := Option.some.inj ht; exact (show Tryd.prog.wantsStandIn 9 = false by kernel_rfl))⟩)
    (by kernel_rfl)
end Go.Proofs.YtjlbepebaegmeaaDoor
