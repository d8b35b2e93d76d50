/- The statement Rows.PathRejoinsCardSaid: for every input that the row admits, the Go function PathRejoins returns true, does not panic, and leaves its arguments as they were; the listed package-level variables are tied to the program's text (the tie is given). No condition is added. -/
import Derived.Test.YtheeafnmkboblaaDoorC1
import Derived.Test.YtheeafnmkboblaaDoorR
import Derived.Test.YtheeafnmkboblaaDoorP
import Derived.Test.YtheeafnmkboblaaDoorRows
import Derived.Test.YtheeafnmkboblaaDoorCards
import Derived.Test.YtheeafnmkboblaaDoorTie
import Derived.Lay
import Derived.LaidMore
import Derived.SevenTiedAt
import Derived.Stop.Joined
namespace Go.Proofs.YtheeafnmkboblaaDoor
open Go.Vm
open Go.ChangeShapes Go.WideShapes Go.ChangeAt Go.RowKit
set_option autoImplicit false
set_option maxRecDepth 100000

theorem PathRejoins_own : ownKnob Tryd.prog.godebug = none := by kernel_rfl
theorem PathRejoins_laidOut : laidOutB Tryd.prog = true := by kernel_rfl
theorem PathRejoins_contract (qs : List PV) (h : HasArgs [.str] qs) : CallOK Tryd.prog 10 qs (.bool true) true := by
  obtain ⟨p, rfl, w0⟩ := args10 h
  exact c10 (law03_PathRejoins_true p w0)

theorem PathRejoins_lifted (os : Os) (started : os.Started) (H : Type) (enc : TypeId × Value → H) :
    ReturnsInHanded {} Tryd.checked os 10 .any (fun w args => (Rows.pathRejoinsSpec.pre enc Tryd.prog Tryd.f10 Rows.pathRejoinsRow.domain false w args ∧ laidMetH Tryd.prog Rows.pathRejoinsRow.laid w) ∧ sizedMet enc Tryd.prog Tryd.f10 (OpenSpec.ofChange Rows.pathRejoinsSpec) false w args)
      (Rows.pathRejoinsSpec.post enc Tryd.prog Tryd.f10 false true false false) := by
  refine returnsInHanded_of_change_and (C := Tryd.checked) (X := fun w _ => laidMetH Tryd.prog Rows.pathRejoinsRow.laid w) (fun _ _ _ hh h => h.of_heap hh) PathRejoins_own started (by kernel_rfl) Tryd.func10
    (ChangeSpec.witness_shaped (enc := enc) (C := Tryd.checked) (os := os) (X := fun w _ => laidMetH Tryd.prog Rows.pathRejoinsRow.laid w) false (World.laidAll Tryd.prog os Rows.pathRejoinsRow.laid) #[.string ByteArray.empty] 12 (World.laidAll_os _ _ _)
      (World.shaped_of_ZipB (by kernel_rfl) (by kernel_rfl)) (by kernel_rfl) (by kernel_rfl) (by kernel_rfl)
      (by rw [MakeChecks.laidMetH_plain _ _ _ (by kernel_rfl)]; exact laidMet_laidAll _ (by kernel_rfl) (by kernel_rfl))) ?_
  intro W base args ds gs before hval hW _ _ _ _
  exact law (P := Tryd.prog) (fn := Tryd.f10) (s := Rows.pathRejoinsSpec) (n := 12) (tys := [.str]) PathRejoins_laidOut (by kernel_rfl) (by kernel_rfl) rfl (by kernel_rfl) rfl
    (fun ds hl => by
      match ds, hl with
      | [a0], _ => exact ⟨rfl, rfl, rfl⟩) PathRejoins_contract hval hW

theorem PathRejoins_row : Rows.PathRejoinsSaid :=
  OpenClaim.holds_of_wide 10 Tryd.f10 rfl rfl rfl rfl rfl rfl rfl ⟨rfl, rfl, rfl, rfl, rfl⟩ rfl rfl rfl rfl rfl (by kernel_rfl) Tryd.func10 (by kernel_rfl)
    (of_decide_eq_true (by kernel_rfl)) (by unfold Func.isWrapper; first | (rw [if_pos (by decide +kernel)]; kernel_rfl) | (rw [if_neg (by decide +kernel)]; exact ⟨rfl, rfl⟩))
    (fun os started H enc _ => PathRejoins_lifted os started H enc)

theorem PathRejoins_proved : Rows.PathRejoinsCardSaid :=
  Claim7.holds_tied_plain_at .later [] [.data, .pinned] true (true, "8d6de184aae88457b78770121504e8c6aecc5dc1fa8bcef4929939c83b0b8338") false
    PathRejoins_row (fun _ h => by cases h) (by kernel_rfl) (fun _ h => by cases h) pathRejoins_row_tie rfl ⟨rfl, rfl⟩ (by kernel_rfl) rfl
    (fun f fn hf hfn => by
      obtain rfl : f = 10 := Option.some.inj ((show Tryd.prog.funcNamed Rows.pathRejoinsRow.func = some 10 by kernel_rfl).symm.trans hf) |>.symm
      obtain rfl : fn = Tryd.f10 := (Option.some.inj (Tryd.func10.symm.trans hfn)).symm
      exact ⟨by kernel_rfl, fun j t ht => by
        rw [Tryd.params10] at ht
        have hj : j < 1 := by
          have := (Array.getElem?_eq_some_iff.1 ht).1
          simpa using this
        match j, hj, ht with
        | 0, _, ht => exact (by obtain rfl := Option.some.inj ht; exact (show Tryd.prog.wantsStandIn 9 = false by kernel_rfl))⟩)
    (by kernel_rfl)
end Go.Proofs.YtheeafnmkboblaaDoor
