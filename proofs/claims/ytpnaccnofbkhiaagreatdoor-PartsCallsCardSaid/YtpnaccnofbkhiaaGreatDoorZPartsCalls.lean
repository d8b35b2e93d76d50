/- The statement Rows.PartsCallsCardSaid: for every input that the row admits, the Go function PartsCalls returns true, does not panic, and leaves its arguments as they were; the listed package-level variables are tied to the program's text (the tie is given). No condition is added. -/
import Derived.Test.YtpnaccnofbkhiaaGreatDoorT
import Derived.Test.YtpnaccnofbkhiaaGreatDoorR
import Derived.Test.YtpnaccnofbkhiaaGreatDoorP
import Derived.Test.YtpnaccnofbkhiaaGreatDoorRows
import Derived.Test.YtpnaccnofbkhiaaGreatDoorCards
import Derived.Test.YtpnaccnofbkhiaaGreatDoorTie
import Derived.Test.YtpnaccnofbkhiaaGreatDoorVmZ
import Derived.Lay
import Derived.LaidMore
import Derived.SevenTiedAt
import Derived.Stop.Joined
namespace Go.Proofs.YtpnaccnofbkhiaaGreatDoor
open Go.Vm
open Go.ChangeShapes Go.WideShapes Go.ChangeAt Go.RowKit
set_option autoImplicit false
set_option maxRecDepth 100000

theorem a85 : ownKnob Tryz.prog.godebug = none := by kernel_rfl
theorem aR4 : laidOutB Tryz.prog = true := by kernel_rfl
theorem a50 : bQ1 Tryz.prog = true := by kernel_rfl
theorem aO1 (qs : List PV) (h : HasArgs [(.sl av9), aE3, .str] qs) : CallOK Tryz.prog 3 qs (.bool true) true := by
  obtain ⟨l, hosts, address, rfl, w0, w1, w2⟩ := args3 h
  exact c3 _ (aO0 l hosts address w0 w1 w2)

theorem aU2 (os : Os) (started : os.Started) (H : Type) (enc : TypeId × Value → H) :
    ReturnsInHanded {} Tryz.checked os 3 .any (fun w args => (Rows.partsCallsSpec.pre enc Tryz.prog Tryz.f3 Rows.partsCallsRow.domain false w args ∧ laidMetH Tryz.prog Rows.partsCallsRow.laid w) ∧ sizedMet enc Tryz.prog Tryz.f3 (OpenSpec.ofChange Rows.partsCallsSpec) false w args)
      (Rows.partsCallsSpec.post enc Tryz.prog Tryz.f3 false true false false) := by
  refine bf0 (C := Tryz.checked) (X := fun w _ => laidMetH Tryz.prog Rows.partsCallsRow.laid w) (fun _ _ _ hh h => h.of_heap hh) a85 started (by kernel_rfl) Tryz.func3
    (ChangeSpec.witness_shaped (enc := enc) (C := Tryz.checked) (os := os) (X := fun w _ => laidMetH Tryz.prog Rows.partsCallsRow.laid w) false (World.laidAll Tryz.prog os Rows.partsCallsRow.laid) #[.slice none 0 0, .agg #[.string ByteArray.empty, .string ByteArray.empty], .string ByteArray.empty] 12 (World.laidAll_os _ _ _)
      (World.shaped_of_ZipB (by kernel_rfl) (by kernel_rfl)) (by kernel_rfl) (by kernel_rfl) (by kernel_rfl)
      (by rw [MakeChecks.laidMetH_plain _ _ _ (by kernel_rfl)]; exact laidMet_laidAll _ (by kernel_rfl) (by kernel_rfl))) ?_
  intro W base args ds gs before hsh hval hW hX hwt
  exact law (P := Tryz.prog) (fn := Tryz.f3) (s := Rows.partsCallsSpec) (n := 12) (tys := [(.sl av9), aE3, .str]) aR4 (by kernel_rfl) (by kernel_rfl) rfl (by kernel_rfl) rfl
    (fun ds hl => by
      match ds, hl with
      | [a0, a1, a2], _ => exact ⟨rfl, rfl, rfl⟩) aO1 (bQ3 a50 hsh (bZ7 2 (by kernel_rfl) (by kernel_rfl) (by kernel_rfl) hX) (bF9 (by kernel_rfl))) hwt hval hW

theorem jf_of {P : Program} {f : FuncId} {fn : Func} {s : ChangeSpec} {c : OpenClaim} (h0 : (c.wf (OpenSpec.ofChange s) && laidOutB P && mapsRowed P && fn.params.all (P.readableRec ·) && namedTie P c.named s.vars) = true) (h1 : ((c.stops == []) && (P.stops == []) && (c.knobs == []) && (P.stopKnobs == [])) = true) (h2 : ((c.inPlace == P.inPlace f)) = true) (h3 : ((c.unfollowed == P.unfollowed f)) = true) (h4 : ((c.recurses == P.recurses f)) = true) (h5 : ((c.named == P.varsNamed f)) = true) (h6 : ((c.maps == (fn.params.toList ++ s.plain.varTypes P).any (P.mapsRec ·)) && (c.ifaces == (fn.params.toList ++ s.plain.varTypes P).any (P.ifacesRec ·)) && (c.mapsOut == P.mapsAmong fn.resultTypes.toList)) = true) (h7 : ((c.loops == (fn.params.toList ++ s.plain.varTypes P).any (P.loopsFrom ·)) && (c.wideKeys == (fn.params.toList ++ s.plain.varTypes P ++ fn.resultTypes.toList).any (P.wideKeysFrom ·))) = true) (h8 : (s.vars.all (P.varReadable ·) && fn.resultTypes.all (fun t => P.readableRec t && decide (t < P.types.size)) && (c.ifacesOut == fn.resultTypes.toList.any (P.ifacesRec ·)) && (c.loopsOut == fn.resultTypes.toList.any (P.loopsFrom ·))) = true) (h9 : ((c.plainKeys == P.plainKeys)) = true) (h10 : (c.shortTexts.isNone) = true) (h11 : (P.stopsHeard) = true) (h12 : (P.mayEnter) = true) (h13 : ((c.lifted == P.liftsFinal) && (P.make == some c.make) && (c.kinds == (if c.domain.isEmpty then [] else fn.params.toList.map fun t => match P.underlying t with | some (.int k) => some k | _ => none)) && (c.pinned == c.pinnedBy)) = true) (h14 : ((c.veiled == (fn.params.toList ++ s.plain.varTypes P ++ fn.resultTypes.toList).any (P.veiledRec ·)) && c.veiledFits P fn.params.toList (fn.params.toList ++ s.plain.varTypes P ++ fn.resultTypes.toList)) = true) : joinedFacts P f fn s c = true := by
  simp only [Bool.and_eq_true, and_assoc] at h0 h1 h2 h3 h4 h5 h6 h7 h8 h9 h10 h11 h12 h13 h14
  simp only [joinedFacts, Bool.and_eq_true, and_assoc]
  exact ⟨h0.1, h0.2.1, h0.2.2.1, h0.2.2.2.1, h0.2.2.2.2, h1.1, h1.2.1, h1.2.2.1, h1.2.2.2, h2, h3, h4, h5, h6.1, h6.2.1, h6.2.2, h7.1, h7.2, h8.1, h8.2.1, h8.2.2.1, h8.2.2.2, h9, h10, h11, h12, h13.1, h13.2.1, h13.2.2.1, h13.2.2.2, h14.1, h14.2⟩
theorem jf_p0 : (Rows.partsCallsRow.wf (OpenSpec.ofChange Rows.partsCallsSpec) && laidOutB Tryz.prog && mapsRowed Tryz.prog && Tryz.f3.params.all (Tryz.prog.readableRec ·) && namedTie Tryz.prog Rows.partsCallsRow.named Rows.partsCallsSpec.vars) = true := by kernel_rfl
theorem jf_p1 : ((Rows.partsCallsRow.stops == []) && (Tryz.prog.stops == []) && (Rows.partsCallsRow.knobs == []) && (Tryz.prog.stopKnobs == [])) = true := by kernel_rfl
theorem jf_p2 : ((Rows.partsCallsRow.inPlace == Tryz.prog.inPlace 3)) = true := by kernel_rfl
theorem jf_p3 : ((Rows.partsCallsRow.unfollowed == Tryz.prog.unfollowed 3)) = true := by kernel_rfl
theorem jf_p4 : ((Rows.partsCallsRow.recurses == Tryz.prog.recurses 3)) = true := by kernel_rfl
theorem jf_p5 : ((Rows.partsCallsRow.named == Tryz.prog.varsNamed 3)) = true := by kernel_rfl
theorem jf_p6 : ((Rows.partsCallsRow.maps == (Tryz.f3.params.toList ++ Rows.partsCallsSpec.plain.varTypes Tryz.prog).any (Tryz.prog.mapsRec ·)) && (Rows.partsCallsRow.ifaces == (Tryz.f3.params.toList ++ Rows.partsCallsSpec.plain.varTypes Tryz.prog).any (Tryz.prog.ifacesRec ·)) && (Rows.partsCallsRow.mapsOut == Tryz.prog.mapsAmong Tryz.f3.resultTypes.toList)) = true := by kernel_rfl
theorem jf_p7 : ((Rows.partsCallsRow.loops == (Tryz.f3.params.toList ++ Rows.partsCallsSpec.plain.varTypes Tryz.prog).any (Tryz.prog.loopsFrom ·)) && (Rows.partsCallsRow.wideKeys == (Tryz.f3.params.toList ++ Rows.partsCallsSpec.plain.varTypes Tryz.prog ++ Tryz.f3.resultTypes.toList).any (Tryz.prog.wideKeysFrom ·))) = true := by kernel_rfl
theorem jf_p8 : (Rows.partsCallsSpec.vars.all (Tryz.prog.varReadable ·) && Tryz.f3.resultTypes.all (fun t => Tryz.prog.readableRec t && decide (t < Tryz.prog.types.size)) && (Rows.partsCallsRow.ifacesOut == Tryz.f3.resultTypes.toList.any (Tryz.prog.ifacesRec ·)) && (Rows.partsCallsRow.loopsOut == Tryz.f3.resultTypes.toList.any (Tryz.prog.loopsFrom ·))) = true := by kernel_rfl
theorem jf_p9 : ((Rows.partsCallsRow.plainKeys == Tryz.prog.plainKeys)) = true := by kernel_rfl
theorem cl1 : (Rows.partsCallsRow.shortTexts.isNone) = true := by kernel_rfl
theorem cl2 : (Tryz.prog.stopsHeard) = true := by kernel_rfl
theorem cl3 : (Tryz.prog.mayEnter) = true := by kernel_rfl
theorem cl4 : ((Rows.partsCallsRow.lifted == Tryz.prog.liftsFinal) && (Tryz.prog.make == some Rows.partsCallsRow.make) && (Rows.partsCallsRow.kinds == (if Rows.partsCallsRow.domain.isEmpty then [] else Tryz.f3.params.toList.map fun t => match Tryz.prog.underlying t with | some (.int k) => some k | _ => none)) && (Rows.partsCallsRow.pinned == Rows.partsCallsRow.pinnedBy)) = true := by kernel_rfl
theorem cl5 : ((Rows.partsCallsRow.veiled == (Tryz.f3.params.toList ++ Rows.partsCallsSpec.plain.varTypes Tryz.prog ++ Tryz.f3.resultTypes.toList).any (Tryz.prog.veiledRec ·)) && Rows.partsCallsRow.veiledFits Tryz.prog Tryz.f3.params.toList (Tryz.f3.params.toList ++ Rows.partsCallsSpec.plain.varTypes Tryz.prog ++ Tryz.f3.resultTypes.toList)) = true := by kernel_rfl
theorem a86 : Rows.PartsCallsSaid :=
  OpenClaim.holds_of_wide 3 Tryz.f3 rfl rfl rfl rfl rfl rfl rfl ⟨rfl, rfl, rfl, rfl, rfl⟩ rfl rfl rfl rfl rfl (by kernel_rfl) Tryz.func3 (jf_of jf_p0 jf_p1 jf_p2 jf_p3 jf_p4 jf_p5 jf_p6 jf_p7 jf_p8 jf_p9 cl1 cl2 cl3 cl4 cl5)
    (of_decide_eq_true (by kernel_rfl)) (by unfold Func.isWrapper; first | (rw [if_pos (by decide +kernel)]; kernel_rfl) | (rw [if_neg (by decide +kernel)]; exact ⟨rfl, rfl⟩))
    (fun os started H enc _ => aU2 os started H enc)

theorem PartsCalls_proved : Rows.PartsCallsCardSaid :=
  Claim7.holds_tied_plain_at .later [] [.data, .data, .data, .data, .sentinel, .sentinel, .pinned] true (true, "cc80e5afedf05c992f1b66cb177bb28404d93e0b00584c8547068a5a614250ce") true
    a86 (fun _ h => by cases h) (by kernel_rfl) (fun _ h => by cases h) partsCalls_row_tie rfl ⟨rfl, rfl⟩ (by kernel_rfl) rfl
    (fun f fn hf hfn => by
      obtain rfl : f = 3 := Option.some.inj ((show Tryz.prog.funcNamed Rows.partsCallsRow.func = some 3 by kernel_rfl).symm.trans hf) |>.symm
      obtain rfl : fn = Tryz.f3 := (Option.some.inj (Tryz.func3.symm.trans hfn)).symm
      exact ⟨by kernel_rfl, fun j t ht => by
        rw [Tryz.params3] at ht
        have hj : j < 3 := by
          have := (Array.getElem?_eq_some_iff.1 ht).1
          simpa using this
        match j, hj, ht with
        | 0, _, ht => exact (by obtain rfl := Option.some.inj ht; exact (show Tryz.prog.wantsStandIn 22 = false by kernel_rfl))
        | 1, _, ht => exact (by obtain rfl := Option.some.inj ht; exact (show Tryz.prog.wantsStandIn 23 = false by kernel_rfl))
        | 2, _, ht => exact (by obtain rfl := Option.some.inj ht; exact (show Tryz.prog.wantsStandIn 9 = false by kernel_rfl))⟩)
    (by kernel_rfl)
end Go.Proofs.YtpnaccnofbkhiaaGreatDoor
