/- The statement Rows.PartsLogCardSaid: for every input that the row admits, the Go function PartsLog returns true, does not panic, and leaves its arguments as they were; the listed package-level variables are tied to the program's text (the tie is given). No condition is added. -/
import Derived.Test.YtchaaedlfibdoaaGreatDoorT
import Derived.Test.YtchaaedlfibdoaaGreatDoorP
import Derived.Test.YtchaaedlfibdoaaGreatDoorRows
import Derived.Test.YtchaaedlfibdoaaGreatDoorCards
import Derived.Test.YtchaaedlfibdoaaGreatDoorTie
import Derived.Test.YtchaaedlfibdoaaGreatDoorVmZ
import Derived.Lay
import Derived.LaidMore
import Derived.SevenTiedAt
import Derived.Stop.Joined
namespace Go.Proofs.YtchaaedlfibdoaaGreatDoor
open Go.Vm
open Go.ChangeShapes Go.WideShapes Go.ChangeAt Go.RowKit
set_option maxRecDepth 100000

theorem bB0 : ownKnob Tryz.prog.godebug = none := by kernel_rfl
theorem a93 : laidOutB Tryz.prog = true := by kernel_rfl
theorem bt4 : b57 Tryz.prog = true := by kernel_rfl
theorem a66 (qs : List PV) (h : HasArgs [aw4, (.int .i64)] qs) : CallOK Tryz.prog 3 qs (.bool true) true := by
  obtain ⟨f, now, rfl, w0, w1⟩ := args3 h
  exact c3 _ (a65 f now w0 w1)

theorem bi4 (os : Os) (started : os.Started) (H : Type) (enc : TypeId × Value → H) :
    ReturnsInHanded {} Tryz.checked os 3 .any (fun w args => (Rows.partsLogSpec.pre enc Tryz.prog Tryz.f3 Rows.partsLogRow.domain false w args ∧ laidMetH Tryz.prog Rows.partsLogRow.laid w) ∧ sizedMet enc Tryz.prog Tryz.f3 (OpenSpec.ofChange Rows.partsLogSpec) false w args)
      (Rows.partsLogSpec.post enc Tryz.prog Tryz.f3 false true false false) := by
  refine br9 (C := Tryz.checked) (X := fun w _ => laidMetH Tryz.prog Rows.partsLogRow.laid w) (fun _ _ _ hh h => h.of_heap hh) bB0 started (by kernel_rfl) Tryz.func3
    (ChangeSpec.witness_shaped (enc := enc) (C := Tryz.checked) (os := os) (X := fun w _ => laidMetH Tryz.prog Rows.partsLogRow.laid w) false (World.laidAll Tryz.prog os Rows.partsLogRow.laid) #[.agg #[.slice none 0 0, .slice none 0 0, .int .i64 0, .slice none 0 0, .slice none 0 0], .int .i64 0] 12 (World.laidAll_os _ _ _)
      (World.shaped_of_ZipB (by kernel_rfl) (by kernel_rfl)) (by kernel_rfl) (by kernel_rfl) (by kernel_rfl)
      (by rw [MakeChecks.laidMetH_plain _ _ _ (by kernel_rfl)]; exact laidMet_laidAll _ (by kernel_rfl) (by kernel_rfl))) ?_
  intro W base args ds gs before hsh hval hW hX hwt
  exact law (P := Tryz.prog) (fn := Tryz.f3) (s := Rows.partsLogSpec) (n := 12) (tys := [aw4, (.int .i64)]) a93 (by kernel_rfl) (by kernel_rfl) rfl (by kernel_rfl) rfl
    (fun ds hl => by
      match ds, hl with
      | [a0, a1], _ => exact ⟨rfl, rfl, rfl⟩) a66 (b58 bt4 hsh (ce9 2 (by kernel_rfl) (by kernel_rfl) (by kernel_rfl) hX) (cf0 6 (by kernel_rfl) (by kernel_rfl) (by kernel_rfl) hX)) hwt hval hW

theorem jf_of {P : Program} {f : FuncId} {fn : Func} {s : ChangeSpec} {c : OpenClaim} (h0 : (c.wf (OpenSpec.ofChange s) && laidOutB P && mapsRowed P && fn.params.all (P.readableRec ·) && namedTie P c.named s.vars) = true) (h1 : ((c.stops == []) && (P.stops == []) && (c.knobs == []) && (P.stopKnobs == [])) = true) (h2 : ((c.inPlace == P.inPlace f)) = true) (h3 : ((c.unfollowed == P.unfollowed f)) = true) (h4 : ((c.recurses == P.recurses f)) = true) (h5 : ((c.named == P.varsNamed f)) = true) (h6 : ((c.maps == (fn.params.toList ++ s.plain.varTypes P).any (P.mapsRec ·)) && (c.ifaces == (fn.params.toList ++ s.plain.varTypes P).any (P.ifacesRec ·)) && (c.mapsOut == P.mapsAmong fn.resultTypes.toList)) = true) (h7 : ((c.loops == (fn.params.toList ++ s.plain.varTypes P).any (P.loopsFrom ·)) && (c.wideKeys == (fn.params.toList ++ s.plain.varTypes P ++ fn.resultTypes.toList).any (P.wideKeysFrom ·))) = true) (h8 : (s.vars.all (P.varReadable ·) && fn.resultTypes.all (fun t => P.readableRec t && decide (t < P.types.size)) && (c.ifacesOut == fn.resultTypes.toList.any (P.ifacesRec ·)) && (c.loopsOut == fn.resultTypes.toList.any (P.loopsFrom ·))) = true) (h9 : ((c.plainKeys == P.plainKeys)) = true) (h10 : (c.shortTexts.isNone) = true) (h11 : (P.stopsHeard) = true) (h12 : (P.mayEnter) = true) (h13 : ((c.lifted == P.liftsFinal) && (P.make == some c.make) && (c.kinds == (if c.domain.isEmpty then [] else fn.params.toList.map fun t => match P.underlying t with | some (.int k) => some k | _ => none)) && (c.pinned == c.pinnedBy)) = true) (h14 : ((c.veiled == (fn.params.toList ++ s.plain.varTypes P ++ fn.resultTypes.toList).any (P.veiledRec ·)) && c.veiledFits P fn.params.toList (fn.params.toList ++ s.plain.varTypes P ++ fn.resultTypes.toList)) = true) : joinedFacts P f fn s c = true := by
  simp only [bA, and_assoc] at h0 h1 h2 h3 h4 h5 h6 h7 h8 h9 h10 h11 h12 h13 h14
  simp only [joinedFacts, bA, and_assoc]
  exact ⟨h0.1, h0.2.1, h0.2.2.1, h0.2.2.2.1, h0.2.2.2.2, h1.1, h1.2.1, h1.2.2.1, h1.2.2.2, h2, h3, h4, h5, h6.1, h6.2.1, h6.2.2, h7.1, h7.2, h8.1, h8.2.1, h8.2.2.1, h8.2.2.2, h9, h10, h11, h12, h13.1, h13.2.1, h13.2.2.1, h13.2.2.2, h14.1, h14.2⟩
theorem jf_p0 : (Rows.partsLogRow.wf (OpenSpec.ofChange Rows.partsLogSpec) && laidOutB Tryz.prog && mapsRowed Tryz.prog && Tryz.f3.params.all (Tryz.prog.readableRec ·) && namedTie Tryz.prog Rows.partsLogRow.named Rows.partsLogSpec.vars) = true := by kernel_rfl
theorem jf_p1 : ((Rows.partsLogRow.stops == []) && (Tryz.prog.stops == []) && (Rows.partsLogRow.knobs == []) && (Tryz.prog.stopKnobs == [])) = true := by kernel_rfl
theorem jf_p2 : ((Rows.partsLogRow.inPlace == Tryz.prog.inPlace 3)) = true := by kernel_rfl
theorem jf_p3 : ((Rows.partsLogRow.unfollowed == Tryz.prog.unfollowed 3)) = true := by kernel_rfl
theorem jf_p4 : ((Rows.partsLogRow.recurses == Tryz.prog.recurses 3)) = true := by kernel_rfl
theorem jf_p5 : ((Rows.partsLogRow.named == Tryz.prog.varsNamed 3)) = true := by kernel_rfl
theorem jf_p6 : ((Rows.partsLogRow.maps == (Tryz.f3.params.toList ++ Rows.partsLogSpec.plain.varTypes Tryz.prog).any (Tryz.prog.mapsRec ·)) && (Rows.partsLogRow.ifaces == (Tryz.f3.params.toList ++ Rows.partsLogSpec.plain.varTypes Tryz.prog).any (Tryz.prog.ifacesRec ·)) && (Rows.partsLogRow.mapsOut == Tryz.prog.mapsAmong Tryz.f3.resultTypes.toList)) = true := by kernel_rfl
theorem jf_p7 : ((Rows.partsLogRow.loops == (Tryz.f3.params.toList ++ Rows.partsLogSpec.plain.varTypes Tryz.prog).any (Tryz.prog.loopsFrom ·)) && (Rows.partsLogRow.wideKeys == (Tryz.f3.params.toList ++ Rows.partsLogSpec.plain.varTypes Tryz.prog ++ Tryz.f3.resultTypes.toList).any (Tryz.prog.wideKeysFrom ·))) = true := by kernel_rfl
theorem jf_p8 : (Rows.partsLogSpec.vars.all (Tryz.prog.varReadable ·) && Tryz.f3.resultTypes.all (fun t => Tryz.prog.readableRec t && decide (t < Tryz.prog.types.size)) && (Rows.partsLogRow.ifacesOut == Tryz.f3.resultTypes.toList.any (Tryz.prog.ifacesRec ·)) && (Rows.partsLogRow.loopsOut == Tryz.f3.resultTypes.toList.any (Tryz.prog.loopsFrom ·))) = true := by kernel_rfl
theorem jf_p9 : ((Rows.partsLogRow.plainKeys == Tryz.prog.plainKeys)) = true := by kernel_rfl
theorem cC9 : (Rows.partsLogRow.shortTexts.isNone) = true := by kernel_rfl
theorem cD0 : (Tryz.prog.stopsHeard) = true := by kernel_rfl
theorem cD1 : (Tryz.prog.mayEnter) = true := by kernel_rfl
theorem cD2 : ((Rows.partsLogRow.lifted == Tryz.prog.liftsFinal) && (Tryz.prog.make == some Rows.partsLogRow.make) && (Rows.partsLogRow.kinds == (if Rows.partsLogRow.domain.isEmpty then [] else Tryz.f3.params.toList.map fun t => match Tryz.prog.underlying t with | some (.int k) => some k | _ => none)) && (Rows.partsLogRow.pinned == Rows.partsLogRow.pinnedBy)) = true := by kernel_rfl
theorem cD3 : ((Rows.partsLogRow.veiled == (Tryz.f3.params.toList ++ Rows.partsLogSpec.plain.varTypes Tryz.prog ++ Tryz.f3.resultTypes.toList).any (Tryz.prog.veiledRec ·)) && Rows.partsLogRow.veiledFits Tryz.prog Tryz.f3.params.toList (Tryz.f3.params.toList ++ Rows.partsLogSpec.plain.varTypes Tryz.prog ++ Tryz.f3.resultTypes.toList)) = true := by kernel_rfl
theorem ci0 : Tryz.prog.funcs.any Func.goes = false := by kernel_rfl
theorem ci1 {P : Program} {c : OpenClaim} (h : P.funcs.any Func.goes = false) (hs : c.start = .entering) : false = c.goesBy P := by
  have h1 : ∀ f, P.goes f = false := fun f => by
    unfold Program.goes
    rw [h, Bool.and_false, Bool.or_false, List.any_eq_false]
    intro g _
    cases hg : P.funcs[g]? with
    | none => simp
    | some fn =>
      have := Array.any_eq_false.1 h
      obtain ⟨hl, he⟩ := gA.1 hg
      have := this g hl
      rw [he] at this
      simpa using this
  unfold OpenClaim.goesBy Program.goesAt Program.goesFrom
  rw [hs]
  cases P.funcNamed c.func with
  | none => rfl
  | some f => simp [h1]
theorem bB1 : Rows.PartsLogSaid :=
  OpenClaim.holds_of_wide 3 Tryz.f3 rfl rfl rfl rfl rfl rfl rfl ⟨rfl, rfl, rfl, rfl, rfl⟩ rfl rfl rfl rfl rfl (by kernel_rfl) Tryz.func3 (jf_of jf_p0 jf_p1 jf_p2 jf_p3 jf_p4 jf_p5 jf_p6 jf_p7 jf_p8 jf_p9 cC9 cD0 cD1 cD2 cD3)
    (of_decide_eq_true (by kernel_rfl)) (by unfold Func.isWrapper; first | (rw [iP (by decide +kernel)]; kernel_rfl) | (rw [iN (by decide +kernel)]; exact ⟨rfl, rfl⟩))
    (fun os started H enc _ => bi4 os started H enc)

theorem PartsLog_proved : Rows.PartsLogCardSaid :=
  Claim7.holds_tied_plain_at .later [] [.data, .data, .data, .data, .sentinel, .sentinel, .data, .pinned] true (true, "e47e5408c9facb298df1648cbe8ea2c85134be73f98618d8462d857805b20fd5") true
    bB1 (fun _ h => by cases h) (by kernel_rfl) (fun _ h => by cases h) partsLog_row_tie rfl ⟨rfl, rfl⟩ (by kernel_rfl) rfl
    (fun f fn hf hfn => by
      obtain rfl : f = 3 := Option.some.inj ((show Tryz.prog.funcNamed Rows.partsLogRow.func = some 3 by kernel_rfl).symm.trans hf) |>.symm
      obtain rfl : fn = Tryz.f3 := (Option.some.inj (Tryz.func3.symm.trans hfn)).symm
      exact ⟨by kernel_rfl, fun j t ht => by
        rw [Tryz.params3] at ht
        have hj : j < 2 := by
          have := (gA.1 ht).1
          simpa using this
        match j, hj, ht with
        | 0, _, ht => exact (by obtain rfl := Option.some.inj ht; exact (show Tryz.prog.wantsStandIn 29 = false by kernel_rfl))
        | 1, _, ht => exact (by obtain rfl := Option.some.inj ht; exact (show Tryz.prog.wantsStandIn 3 = false by kernel_rfl))⟩)
    (ci1 ci0 rfl)
end Go.Proofs.YtchaaedlfibdoaaGreatDoor
