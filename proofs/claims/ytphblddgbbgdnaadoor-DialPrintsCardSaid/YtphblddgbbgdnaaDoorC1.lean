/- The functions of the program compute what their plain forms compute; printed by a program of the claim's author. -/
import Derived.Test.YtphblddgbbgdnaaDoorC
import Derived.Test.YtphblddgbbgdnaaDoorS
import Derived.Test.YtphblddgbbgdnaaDoorShelf
import Derived.Test.YtphblddgbbgdnaaDoorVmB
import Derived.Test.YtphblddgbbgdnaaDoorB
namespace Go.Proofs.YtphblddgbbgdnaaDoor
open Go.Vm
set_option autoImplicit false
set_option linter.unusedVariables false
set_option linter.unusedSimpArgs false
set_option maxRecDepth 100000

theorem c12 {s_ : Str} {r : (api_Addr × Int)} (h : dial_Parse s_ = some r) : CallOK Tryd.prog 12 [.str s_] (.tup [enc_api_Addr r.1, .int .i64 r.2]) true := by
  apply ok12
  unfold dial_Parse at h
  refine x_rg (rgn [hE, hE] (⟨[(0, pS s_), (2, .optr 0 0 0)], [(0, some (.p (some 3) [.agg [.str [], .str [], .str []]]))], 1⟩)) ?_
  obtain ⟨x1, hx1, h⟩ := bind_some h
  refine x_rg (rg0 [hE, hN (.cal [] (.usl none (List.map PV.str x1)) true), hE] (⟨[(2, .optr 0 0 0), (4, oL 1 PV.str x1)], [(0, some (.p (some 3) [.agg [.str [], .str [], .str []]])), (1, rL none PV.str x1)], 2⟩) (.cons (c31 hx1) .nil)) ?_
  refine x_seq ?_
  refine x_rg (st2 := ⟨[(2, .optr 0 0 0), (4, oL 1 PV.str x1), (15, pB ((decide ((List.length x1 : Int) < 2)) || (decide (3 < (List.length x1 : Int)))))], [(0, some (.p (some 3) [.agg [.str [], .str [], .str []]])), (1, rL none PV.str x1)], 2⟩) ?_ ?_
  ·rcases Bool.eq_false_or_eq_true (decide ((List.length x1 : Int) < 2)) with hg2 | hg2
   ·exact rg (obs := [((((List.map PV.str x1).length : Nat) : Int) = (List.length x1 : Int)), ((decide ((List.length x1 : Int) < 2)) = true), ((decide ((List.length x1 : Int) < 2)) = true), ((decide ((List.length x1 : Int) < 2)) = true), ((decide ((List.length x1 : Int) < 2)) = true)]) [hE, hN (.len (List.length x1 : Int)), hE, hE, hS, hS, hS, hN (.pk true)] (⟨[(2, .optr 0 0 0), (4, oL 1 PV.str x1), (15, pB true)], [(0, some (.p (some 3) [.agg [.str [], .str [], .str []]])), (1, rL none PV.str x1)], 2⟩) (.cons (by rw [List.length_map]) (.cons hg2 (.cons hg2 (.cons hg2 (.cons hg2 .nil))))) (.of_eq (by simp only [hg2, bs, reduceIte]))
   ·exact rg (obs := [((((List.map PV.str x1).length : Nat) : Int) = (List.length x1 : Int)), ((decide ((List.length x1 : Int) < 2)) = false), ((decide ((List.length x1 : Int) < 2)) = false), ((((List.map PV.str x1).length : Nat) : Int) = (List.length x1 : Int)), ((decide ((List.length x1 : Int) < 2)) = false), ((decide ((List.length x1 : Int) < 2)) = false)]) [hE, hN (.len (List.length x1 : Int)), hE, hE, hY, (.y, (.len (List.length x1 : Int))), hY, hN (.pk false)] (⟨[(2, .optr 0 0 0), (4, oL 1 PV.str x1), (15, pB (decide (3 < (List.length x1 : Int))))], [(0, some (.p (some 3) [.agg [.str [], .str [], .str []]])), (1, rL none PV.str x1)], 2⟩) (.cons (by rw [List.length_map]) (.cons hg2 (.cons hg2 (.cons (by rw [List.length_map]) (.cons hg2 (.cons hg2 .nil)))))) (.of_eq (by simp only [hg2, bs, reduceIte]))
  ·refine x_cond _ rfl (fun hc4 => ?_) (fun hc4 => ?_)
   ·replace h := ite_t h hc4
    refine x_rg (rgn [hE, hE, hE] (⟨[(2, .optr 0 0 0), (3, pI 36)], [(0, some (.p (some 3) [.agg [.str [], .str [], .str []]]))], 1⟩)) ?_
    refine x_toret ?_
    refine x_tr ?_
    obtain rfl := Option.some.inj h
    exact ret0 (.tup [.agg [.str [], .str [], .str []], .int .i64 36]) (.tup (.cons (.refl _) (.cons (.refl _) .nil))) (fun _ => rfl)
   ·replace h := ite_f h hc4
    refine kw0 (⟨[(2, .optr 0 0 0), (4, oL 1 PV.str x1)], [(0, some (.p (some 3) [.agg [.str [], .str [], .str []]])), (1, rL none PV.str x1)], 2⟩) ?_
    refine x_skip ?_
    refine x_tn ?_
    obtain ⟨x5, hx5, h⟩ := bind_some h
    obtain ⟨x6, hx6, h⟩ := bind_some h
    refine x_rg (rg0 (obs := [(0 ≤ (0 : Int) ∧ Int.toNat 0 < (List.map PV.str x1).length), ((List.map PV.str x1)[(0 + Int.toNat 0)]? = some (.str x5)), (0 ≤ (1 : Int) ∧ Int.toNat 1 < (List.map PV.str x1).length), ((List.map PV.str x1)[(0 + Int.toNat 1)]? = some (.str x6))]) [hE, hN .rAt, hN (.ld (.str x5)), hE, hN .rAt, hN (.ld (.str x6)), hE, hE, hE] (⟨[(2, .optr 0 0 0), (4, oL 1 PV.str x1), (5, .optr 2 0 0)], [(0, some (.p (some 3) [.agg [.str [], .str [], .str []]])), (1, rL none PV.str x1), (2, some (.p (some 3) [.agg [.str x5, .str x6, .str []]]))], 3⟩) (.cons (rAt_ob hx5 (by simp)) (.cons (ownAt hx5) (.cons (rAt_ob hx6 (by simp)) (.cons (ownAt hx6) .nil))))) ?_
    refine x_join (τ := Str) (fun t => dial_Parse_K7 x1 x5 x6 t = some r) (fun t => { tm := [(2, .optr 0 0 0), (4, .osl 1 0 (List.map PV.str x1).length), (5, .optr 2 0 0)], hp := [(0, some (.p (some 3) [.agg [.str [], .str [], .str []]])), (1, some (.p none (List.map PV.str x1))), (2, some (.p (some 3) [.agg [.str x5, .str x6, .str t]]))], nx := 3 }) ?_ ?_
    ·rintro p8 h
     replace h : dial_Parse_K7 x1 x5 x6 p8 = some r := h
     unfold dial_Parse_K7 at h
     refine x_seq ?_
     obtain ⟨x9, hx9, h⟩ := bind_some h
     refine x_rg (st2 := ⟨[(2, .optr 0 0 0), (5, .optr 1 0 0), (43, pB ((!x9) || ((decide ((List.length x1 : Int) = 3)) && (decide (p8 = [])))))], [(0, some (.p (some 3) [.agg [.str [], .str [], .str []]])), (1, some (.p (some 3) [.agg [.str x5, .str x6, .str p8]]))], 2⟩) ?_ ?_
     ·rcases Bool.eq_false_or_eq_true (!x9) with hg10 | hg10
      ·exact rg [hE, hN (.cal [] (.bool x9) true), hE, hE, hS, hS, hS, hS, (.u, .e), (.u, .e), (.u, .e), hS, hN (.pk true)] (⟨[(2, .optr 0 0 0), (5, .optr 1 0 0), (43, pB true)], [(0, some (.p (some 3) [.agg [.str [], .str [], .str []]])), (1, some (.p (some 3) [.agg [.str x5, .str x6, .str p8]]))], 2⟩) (.cons (c32 hx9) (.cons hg10 (.cons hg10 (.cons hg10 (.cons hg10 (.cons hg10 (.cons hg10 .nil))))))) (.of_eq (by simp only [hg10, bs, reduceIte]))
      ·rcases Bool.eq_false_or_eq_true (decide ((List.length x1 : Int) = 3)) with hg11 | hg11
       ·exact rg (obs := [(CallOK Tryd.prog 32 [.agg [.str x5, .str x6, .str p8]] (.bool x9) true), ((!x9) = false), ((!x9) = false), ((((List.map PV.str x1).length : Nat) : Int) = (List.length x1 : Int)), ((!x9) = false), ((!x9) = false), ((decide ((List.length x1 : Int) = 3)) = true), ((decide ((List.length x1 : Int) = 3)) = true), ((decide ((List.length x1 : Int) = 3)) = true), ((!x9) = false), ((decide ((List.length x1 : Int) = 3)) = true), ((!x9) = false)]) [hE, hN (.cal [] (.bool x9) true), hE, hE, hY, (.y, (.len (List.length x1 : Int))), hY, hY, hY, hY, hY, (.y, (.pk true)), hN (.pk false)] (⟨[(2, .optr 0 0 0), (5, .optr 1 0 0), (43, pB (decide (p8 = [])))], [(0, some (.p (some 3) [.agg [.str [], .str [], .str []]])), (1, some (.p (some 3) [.agg [.str x5, .str x6, .str p8]]))], 2⟩) (.cons (c32 hx9) (.cons hg10 (.cons hg10 (.cons (by rw [List.length_map]) (.cons hg10 (.cons hg10 (.cons hg11 (.cons hg11 (.cons hg11 (.cons hg10 (.cons hg11 (.cons hg10 .nil)))))))))))) (.of_eq (by simp only [hg10, hg11, bs, reduceIte]))
       ·exact rg (obs := [(CallOK Tryd.prog 32 [.agg [.str x5, .str x6, .str p8]] (.bool x9) true), ((!x9) = false), ((!x9) = false), ((((List.map PV.str x1).length : Nat) : Int) = (List.length x1 : Int)), ((!x9) = false), ((!x9) = false), ((decide ((List.length x1 : Int) = 3)) = false), ((decide ((List.length x1 : Int) = 3)) = false), ((decide ((List.length x1 : Int) = 3)) = false), ((!x9) = false), ((decide ((List.length x1 : Int) = 3)) = false), ((!x9) = false)]) [hE, hN (.cal [] (.bool x9) true), hE, hE, hY, (.y, (.len (List.length x1 : Int))), hY, hY, hS, hS, hS, (.y, (.pk false)), hN (.pk false)] (⟨[(2, .optr 0 0 0), (5, .optr 1 0 0), (43, pB false)], [(0, some (.p (some 3) [.agg [.str [], .str [], .str []]])), (1, some (.p (some 3) [.agg [.str x5, .str x6, .str p8]]))], 2⟩) (.cons (c32 hx9) (.cons hg10 (.cons hg10 (.cons (by rw [List.length_map]) (.cons hg10 (.cons hg10 (.cons hg11 (.cons hg11 (.cons hg11 (.cons hg10 (.cons hg11 (.cons hg10 .nil)))))))))))) (.of_eq (by simp only [hg10, hg11, bs, reduceIte]))
     ·refine x_cond _ rfl (fun hc13 => ?_) (fun hc13 => ?_)
      ·replace h := ite_t h hc13
       refine x_rg (rgn [hE, hE, hE] (⟨[(2, .optr 0 0 0), (3, pI 36)], [(0, some (.p (some 3) [.agg [.str [], .str [], .str []]]))], 1⟩)) ?_
       refine x_toret ?_
       refine x_tr ?_
       obtain rfl := Option.some.inj h
       exact ret0 (.tup [.agg [.str [], .str [], .str []], .int .i64 36]) (.tup (.cons (.refl _) (.cons (.refl _) .nil))) (fun _ => rfl)
      ·replace h := ite_f h hc13
       refine kw0 (⟨[(2, .optr 0 0 0), (5, .optr 1 0 0)], [(0, some (.p (some 3) [.agg [.str [], .str [], .str []]])), (1, some (.p (some 3) [.agg [.str x5, .str x6, .str p8]]))], 2⟩) ?_
       refine x_skip ?_
       refine x_tn ?_
       refine x_rg (rgn [hE, hE, hE] (⟨[(2, .optr 0 0 0), (3, pI 0)], [(0, some (.p (some 3) [.agg [.str x5, .str x6, .str p8]]))], 1⟩)) ?_
       refine x_toret ?_
       obtain rfl := Option.some.inj h
       exact ret0 (.tup [.agg [.str x5, .str x6, .str p8], .int .i64 0]) (.tup (.cons (.refl _) (.cons (.refl _) .nil))) (fun _ => rfl)
    ·refine x_rg (rg0 (obs := [((((List.map PV.str x1).length : Nat) : Int) = (List.length x1 : Int))]) [hE, hN (.len (List.length x1 : Int)), hE] (⟨[(2, .optr 0 0 0), (4, oL 1 PV.str x1), (5, .optr 2 0 0), (26, pB (decide ((List.length x1 : Int) = 3)))], [(0, some (.p (some 3) [.agg [.str [], .str [], .str []]])), (1, rL none PV.str x1), (2, some (.p (some 3) [.agg [.str x5, .str x6, .str []]]))], 3⟩) (.cons (by rw [List.length_map]) .nil)) ?_
     refine x_cond _ rfl (fun hc14 => ?_) (fun hc14 => ?_)
     ·replace h := ite_t h hc14
      obtain ⟨x15, hx15, h⟩ := bind_some h
      refine x_rgt (rg0 (obs := [(0 ≤ (2 : Int) ∧ Int.toNat 2 < (List.map PV.str x1).length), ((List.map PV.str x1)[(0 + Int.toNat 2)]? = some (.str x15))]) [hE, hN .rAt, hN (.ld (.str x15)), hE, hE] (⟨[(2, .optr 0 0 0), (4, oL 1 PV.str x1), (5, .optr 2 0 0)], [(0, some (.p (some 3) [.agg [.str [], .str [], .str []]])), (1, rL none PV.str x1), (2, some (.p (some 3) [.agg [.str x5, .str x6, .str x15]]))], 3⟩) (.cons (rAt_ob hx15 (by simp)) (.cons (ownAt hx15) .nil))) ?_
      refine x_tn ?_
      exact ⟨x15, h, by kernel_rfl⟩
     ·replace h := ite_f h hc14
      refine kw0 (⟨[(2, .optr 0 0 0), (4, oL 1 PV.str x1), (5, .optr 2 0 0)], [(0, some (.p (some 3) [.agg [.str [], .str [], .str []]])), (1, rL none PV.str x1), (2, some (.p (some 3) [.agg [.str x5, .str x6, .str []]]))], 3⟩) ?_
      refine x_skip ?_
      refine x_tn ?_
      exact ⟨[], h, by kernel_rfl⟩

theorem c11 {r : Bool} (h : law27_awake = some r) : CallOK Tryd.prog 11 [] (.bool r) true := by
  apply ok11
  unfold law27_awake at h
  refine x_rg (rgn [hE] (⟨[], [], 0⟩)) ?_
  obtain ⟨x1, hx1, h⟩ := bind_some h
  refine x_rg (rg0 [hN (.cal [] (.tup [.usl (some 1) (List.map enc_api_Entry x1.1), .int .i64 x1.2.1, .int .i64 x1.2.2]) false), hE, hE, hE, hE, hE, hE, hE] (⟨[(1, oL 0 enc_api_Entry x1.1), (2, pI x1.2.1), (3, pI x1.2.2)], [(0, rL (some 1) enc_api_Entry x1.1)], 1⟩) (.cons (c16 hx1) .nil)) ?_
  refine x_seq ?_
  obtain ⟨t6, ht, h⟩ := bind_some h
  refine x_rg (st2 := ⟨[(1, oL 0 enc_api_Entry x1.1), (31, pB t6)], [(0, rL (some 1) enc_api_Entry x1.1)], 1⟩) ?_ ?_
  ·rcases Bool.eq_false_or_eq_true (!decide (x1.2.2 = 0)) with hg2 | hg2
   ·replace ht := ite_t ht hg2
    have e := Option.some.inj ht
    subst e
    exact rg0 [hE, hE, hE, hS, hS, hN (.pk true), hE, hS, hS, hS, hE, hE, hS, hS, hS, hS, hS, hS, hE] (⟨[(1, oL 0 enc_api_Entry x1.1), (31, pB true)], [(0, rL (some 1) enc_api_Entry x1.1)], 1⟩) (.cons hg2 (.cons hg2 (.cons hg2 (.cons tt (.cons tt (.cons tt (.cons tt (.cons tt (.cons tt (.cons tt (.cons tt (.cons tt .nil))))))))))))
   ·replace ht := ite_f ht hg2
    rcases Bool.eq_false_or_eq_true (!decide (x1.2.1 = 0)) with hg3 | hg3
    ·replace ht := ite_t ht hg3
     have e := Option.some.inj ht
     subst e
     exact rg0 [hE, hE, hE, hY, hY, hN (.pk false), hE, hS, hS, hS, hN (.pk true), hE, hS, hS, hS, hS, hS, hS, hE] (⟨[(1, oL 0 enc_api_Entry x1.1), (31, pB true)], [(0, rL (some 1) enc_api_Entry x1.1)], 1⟩) (.cons hg2 (.cons hg2 (.cons hg2 (.cons hg3 (.cons hg3 (.cons hg3 (.cons hg3 (.cons tt (.cons tt (.cons tt (.cons tt (.cons tt (.cons tt .nil)))))))))))))
    ·replace ht := ite_f ht hg3
     rcases Bool.eq_false_or_eq_true (!decide ((List.length x1.1 : Int) = 3)) with hg4 | hg4
     ·replace ht := ite_t ht hg4
      have e := Option.some.inj ht
      subst e
      exact rg0 (obs := [((!decide (x1.2.2 = 0)) = false), ((!decide (x1.2.2 = 0)) = false), ((!decide (x1.2.2 = 0)) = false), ((!decide (x1.2.1 = 0)) = false), ((!decide (x1.2.1 = 0)) = false), ((((List.map enc_api_Entry x1.1).length : Nat) : Int) = (List.length x1.1 : Int)), ((!decide (x1.2.1 = 0)) = false), ((!decide (x1.2.1 = 0)) = false), ((!decide ((List.length x1.1 : Int) = 3)) = true), ((!decide ((List.length x1.1 : Int) = 3)) = true), ((!decide ((List.length x1.1 : Int) = 3)) = true), ((!decide ((List.length x1.1 : Int) = 3)) = true), ((!decide ((List.length x1.1 : Int) = 3)) = true), ((!decide ((List.length x1.1 : Int) = 3)) = true), ((!decide ((List.length x1.1 : Int) = 3)) = true)]) [hE, hE, hE, hY, hY, hN (.pk false), hE, hY, (.y, (.len (List.length x1.1 : Int))), hY, hN (.pk false), hE, hS, hS, hS, hS, hS, hS, hN (.pk true)] (⟨[(1, oL 0 enc_api_Entry x1.1), (31, pB true)], [(0, rL (some 1) enc_api_Entry x1.1)], 1⟩) (.cons hg2 (.cons hg2 (.cons hg2 (.cons hg3 (.cons hg3 (.cons (by rw [List.length_map]) (.cons hg3 (.cons hg3 (.cons hg4 (.cons hg4 (.cons hg4 (.cons hg4 (.cons hg4 (.cons hg4 (.cons hg4 .nil)))))))))))))))
     ·replace ht := ite_f ht hg4
      obtain ⟨x5, hx5, ht⟩ := bind_some ht
      have e := Option.some.inj ht
      subst e
      exact rg0 (obs := [((!decide (x1.2.2 = 0)) = false), ((!decide (x1.2.2 = 0)) = false), ((!decide (x1.2.2 = 0)) = false), ((!decide (x1.2.1 = 0)) = false), ((!decide (x1.2.1 = 0)) = false), ((((List.map enc_api_Entry x1.1).length : Nat) : Int) = (List.length x1.1 : Int)), ((!decide (x1.2.1 = 0)) = false), ((!decide (x1.2.1 = 0)) = false), ((!decide ((List.length x1.1 : Int) = 3)) = false), ((!decide ((List.length x1.1 : Int) = 3)) = false), (0 ≤ (1 : Int) ∧ Int.toNat 1 < (List.map enc_api_Entry x1.1).length), ((!decide ((List.length x1.1 : Int) = 3)) = false), ((!decide ((List.length x1.1 : Int) = 3)) = false), ((List.map enc_api_Entry x1.1)[(0 + Int.toNat 1)]? = some (enc_api_Entry x5)), ((!decide ((List.length x1.1 : Int) = 3)) = false), ((List.length (List.map enc_api_Attr x5.Attrs) : Int) = (List.length x5.Attrs : Int)), ((!decide ((List.length x1.1 : Int) = 3)) = false), ((!decide ((List.length x1.1 : Int) = 3)) = false)]) [hE, hE, hE, hY, hY, hN (.pk false), hE, hY, (.y, (.len (List.length x1.1 : Int))), hY, hN (.pk false), hE, hY, (.y, .rAt), hY, (.y, (.ld (enc_api_Entry x5))), (.y, (.len (List.length x5.Attrs : Int))), hY, hN (.pk false)] (⟨[(1, oL 0 enc_api_Entry x1.1), (31, pB (!decide ((List.length x5.Attrs : Int) = 2)))], [(0, rL (some 1) enc_api_Entry x1.1)], 1⟩) (.cons hg2 (.cons hg2 (.cons hg2 (.cons hg3 (.cons hg3 (.cons (by rw [List.length_map]) (.cons hg3 (.cons hg3 (.cons hg4 (.cons hg4 (.cons (rAt_ob hx5 (by simp)) (.cons hg4 (.cons hg4 (.cons (ownAt hx5) (.cons hg4 (.cons (by rw [List.length_map]) (.cons hg4 (.cons hg4 .nil))))))))))))))))))
  ·clear ht
   refine x_cond _ rfl (fun hc7 => ?_) (fun hc7 => ?_)
   ·replace h := ite_t h hc7
    refine x_rg (rgn [hE] (⟨[(0, pB false)], [], 0⟩)) ?_
    refine x_toret ?_
    refine x_tr ?_
    obtain rfl := Option.some.inj h
    exact ret0 (.bool false) (.refl _) (fun _ => rfl)
   ·replace h := ite_f h hc7
    refine kw0 (⟨[(1, oL 0 enc_api_Entry x1.1)], [(0, rL (some 1) enc_api_Entry x1.1)], 1⟩) ?_
    refine x_skip ?_
    refine x_tn ?_
    obtain ⟨x8, hx8, h⟩ := bind_some h
    refine x_rg (rg0 (obs := [(LesA [.sl (some 1) (List.take (List.map enc_api_Entry x1.1).length (List.drop 0 (List.map enc_api_Entry x1.1))), .str [116, 101, 114, 109], .agg [.str [110, 101, 116], .str [102, 115], .str []]] [.sl (some 1) (List.map enc_api_Entry x1.1), .str [116, 101, 114, 109], .agg [.str [110, 101, 116], .str [102, 115], .str []]]), (CallOK Tryd.prog 22 [.sl (some 1) (List.map enc_api_Entry x1.1), .str [116, 101, 114, 109], .agg [.str [110, 101, 116], .str [102, 115], .str []]] (.tup [.usl (some 3) (List.map enc_api_Addr x8.1), .int .i64 x8.2]) true), (0 + (List.map enc_api_Entry x1.1).length ≤ List.length (List.map enc_api_Entry x1.1))]) [hE, hE, hN (.call [] [.sl (some 1) (List.map enc_api_Entry x1.1), .str [116, 101, 114, 109], .agg [.str [110, 101, 116], .str [102, 115], .str []]] (.tup [.usl (some 3) (List.map enc_api_Addr x8.1), .int .i64 x8.2]) true), hE, hE, hE, hE, hE] (⟨[(3, pI x8.2), (4, oL 0 enc_api_Addr x8.1)], [(0, rL (some 3) enc_api_Addr x8.1)], 1⟩) (.cons (.cons (.of_eq (by rw [List.drop_zero, List.take_length])) (.cons (.refl _) (.cons (.refl _) .nil))) (.cons (c22 hx8) (.cons (by simp) .nil)))) ?_
    refine x_seq ?_
    refine x_rg (st2 := ⟨[(4, oL 0 enc_api_Addr x8.1), (44, pB ((!decide (x8.2 = 0)) || (!decide ((List.length x8.1 : Int) = 1))))], [(0, rL (some 3) enc_api_Addr x8.1)], 1⟩) ?_ ?_
    ·rcases Bool.eq_false_or_eq_true (!decide (x8.2 = 0)) with hg9 | hg9
     ·exact rg [hE, hE, hE, hS, hS, hS, hN (.pk true)] (⟨[(4, oL 0 enc_api_Addr x8.1), (44, pB true)], [(0, rL (some 3) enc_api_Addr x8.1)], 1⟩) (.cons hg9 (.cons hg9 (.cons hg9 (.cons hg9 .nil)))) (.of_eq (by simp only [hg9, bs, reduceIte]))
     ·exact rg (obs := [((!decide (x8.2 = 0)) = false), ((!decide (x8.2 = 0)) = false), ((((List.map enc_api_Addr x8.1).length : Nat) : Int) = (List.length x8.1 : Int)), ((!decide (x8.2 = 0)) = false), ((!decide (x8.2 = 0)) = false)]) [hE, hE, hE, hY, (.y, (.len (List.length x8.1 : Int))), hY, hN (.pk false)] (⟨[(4, oL 0 enc_api_Addr x8.1), (44, pB (!decide ((List.length x8.1 : Int) = 1)))], [(0, rL (some 3) enc_api_Addr x8.1)], 1⟩) (.cons hg9 (.cons hg9 (.cons (by rw [List.length_map]) (.cons hg9 (.cons hg9 .nil))))) (.of_eq (by simp only [hg9, bs, reduceIte]))
    ·refine x_cond _ rfl (fun hc11 => ?_) (fun hc11 => ?_)
     ·replace h := ite_t h hc11
      refine x_rg (rgn [hE] (⟨[(0, pB false)], [], 0⟩)) ?_
      refine x_toret ?_
      refine x_tr ?_
      obtain rfl := Option.some.inj h
      exact ret0 (.bool false) (.refl _) (fun _ => rfl)
     ·replace h := ite_f h hc11
      refine kw0 (⟨[(4, oL 0 enc_api_Addr x8.1)], [(0, rL (some 3) enc_api_Addr x8.1)], 1⟩) ?_
      refine x_skip ?_
      refine x_tn ?_
      obtain ⟨x12, hx12, h⟩ := bind_some h
      obtain ⟨x13, hx13, h⟩ := bind_some h
      refine x_rg (rg0 (obs := [(0 ≤ (0 : Int) ∧ Int.toNat 0 < (List.map enc_api_Addr x8.1).length), ((List.map enc_api_Addr x8.1)[(0 + Int.toNat 0)]? = some (enc_api_Addr x12)), (CallOK Tryd.prog 14 [enc_api_Addr x12] (.tup [.str x13.1, .int .i64 x13.2]) true)]) [hE, hN .rAt, hN (.ld (enc_api_Addr x12)), hN (.cal [] (.tup [.str x13.1, .int .i64 x13.2]) true), hE, hE, hE, hE, hE] (⟨[(3, pI x13.2), (4, oL 0 enc_api_Addr x8.1), (5, pS x13.1)], [(0, rL (some 3) enc_api_Addr x8.1)], 1⟩) (.cons (rAt_ob hx12 (by simp)) (.cons (ownAt hx12) (.cons (c14 hx13) .nil)))) ?_
      obtain ⟨x14, hx14, h⟩ := bind_some h
      refine x_rg (rg0 [hN (.cal [] (.tup [enc_api_Addr x14.1, .int .i64 x14.2]) true), hE, hE, hE, hE, hE, hE] (⟨[(3, pI x13.2), (4, oL 0 enc_api_Addr x8.1), (5, pS x13.1), (6, .optr 1 0 0), (7, pI x14.2)], [(0, rL (some 3) enc_api_Addr x8.1), (1, some (.p (some 3) [enc_api_Addr x14.1]))], 2⟩) (.cons (c12 hx14) .nil)) ?_
      obtain ⟨t19, ht, h⟩ := bind_some h
      refine x_rg (st2 := ⟨[(0, pB t19)], [], 0⟩) ?_ ?_
      ·rcases Bool.eq_false_or_eq_true (decide (x13.1 = [116, 99, 112, 33, 102, 115, 33, 53, 54, 52])) with hg15 | hg15
       ·replace ht := ite_t ht hg15
        rcases Bool.eq_false_or_eq_true (decide (x13.2 = 0)) with hg16 | hg16
        ·replace ht := ite_t ht hg16
         obtain ⟨x17, hx17, ht⟩ := bind_some ht
         rcases Bool.eq_false_or_eq_true (decide (x14.1.Net = x17.Net) && (decide (x14.1.Host = x17.Host) && (decide (x14.1.Service = x17.Service) && true))) with hg18 | hg18
         ·replace ht := ite_t ht hg18
          have e := Option.some.inj ht
          subst e
          exact rg0 (obs := [((decide (x13.1 = [116, 99, 112, 33, 102, 115, 33, 53, 54, 52])) = true), ((decide (x13.1 = [116, 99, 112, 33, 102, 115, 33, 53, 54, 52])) = true), ((decide (x13.1 = [116, 99, 112, 33, 102, 115, 33, 53, 54, 52])) = true), ((decide (x13.2 = 0)) = true), ((decide (x13.2 = 0)) = true), ((decide (x13.2 = 0)) = true), (0 ≤ (0 : Int) ∧ Int.toNat 0 < (List.map enc_api_Addr x8.1).length), ((decide (x13.2 = 0)) = true), ((List.map enc_api_Addr x8.1)[(0 + Int.toNat 0)]? = some (enc_api_Addr x17)), ((decide (x13.2 = 0)) = true), ((decide (x13.2 = 0)) = true), ((decide (x14.1.Net = x17.Net) && (decide (x14.1.Host = x17.Host) && (decide (x14.1.Service = x17.Service) && true))) = true), ((decide (x14.1.Net = x17.Net) && (decide (x14.1.Host = x17.Host) && (decide (x14.1.Service = x17.Service) && true))) = true), ((decide (x14.1.Net = x17.Net) && (decide (x14.1.Host = x17.Host) && (decide (x14.1.Service = x17.Service) && true))) = true)]) [hE, hE, hE, hY, hY, hN (.pk true), hE, hY, hY, (.y, .rAt), (.y, (.ld (enc_api_Addr x17))), hY, hN (.pk true), hE, hY, hY, hN (.pk true), hE] (⟨[(0, pB (decide (x14.2 = 0)))], [], 0⟩) (.cons hg15 (.cons hg15 (.cons hg15 (.cons hg16 (.cons hg16 (.cons hg16 (.cons (rAt_ob hx17 (by simp)) (.cons hg16 (.cons (ownAt hx17) (.cons hg16 (.cons hg16 (.cons hg18 (.cons hg18 (.cons hg18 .nil))))))))))))))
         ·replace ht := ite_f ht hg18
          have e := Option.some.inj ht
          subst e
          exact rg0 (obs := [((decide (x13.1 = [116, 99, 112, 33, 102, 115, 33, 53, 54, 52])) = true), ((decide (x13.1 = [116, 99, 112, 33, 102, 115, 33, 53, 54, 52])) = true), ((decide (x13.1 = [116, 99, 112, 33, 102, 115, 33, 53, 54, 52])) = true), ((decide (x13.2 = 0)) = true), ((decide (x13.2 = 0)) = true), ((decide (x13.2 = 0)) = true), (0 ≤ (0 : Int) ∧ Int.toNat 0 < (List.map enc_api_Addr x8.1).length), ((decide (x13.2 = 0)) = true), ((List.map enc_api_Addr x8.1)[(0 + Int.toNat 0)]? = some (enc_api_Addr x17)), ((decide (x13.2 = 0)) = true), ((decide (x13.2 = 0)) = true), ((decide (x14.1.Net = x17.Net) && (decide (x14.1.Host = x17.Host) && (decide (x14.1.Service = x17.Service) && true))) = false), ((decide (x14.1.Net = x17.Net) && (decide (x14.1.Host = x17.Host) && (decide (x14.1.Service = x17.Service) && true))) = false), ((decide (x14.1.Net = x17.Net) && (decide (x14.1.Host = x17.Host) && (decide (x14.1.Service = x17.Service) && true))) = false)]) [hE, hE, hE, hY, hY, hN (.pk true), hE, hY, hY, (.y, .rAt), (.y, (.ld (enc_api_Addr x17))), hY, hN (.pk true), hE, hS, hS, hN (.pk false), hE] (⟨[(0, pB false)], [], 0⟩) (.cons hg15 (.cons hg15 (.cons hg15 (.cons hg16 (.cons hg16 (.cons hg16 (.cons (rAt_ob hx17 (by simp)) (.cons hg16 (.cons (ownAt hx17) (.cons hg16 (.cons hg16 (.cons hg18 (.cons hg18 (.cons hg18 .nil))))))))))))))
        ·replace ht := ite_f ht hg16
         have e := Option.some.inj ht
         subst e
         exact rg0 (obs := [((decide (x13.1 = [116, 99, 112, 33, 102, 115, 33, 53, 54, 52])) = true), ((decide (x13.1 = [116, 99, 112, 33, 102, 115, 33, 53, 54, 52])) = true), ((decide (x13.1 = [116, 99, 112, 33, 102, 115, 33, 53, 54, 52])) = true), ((decide (x13.2 = 0)) = false), ((decide (x13.2 = 0)) = false), ((decide (x13.2 = 0)) = false), ((decide (x13.2 = 0)) = false), ((decide (x13.2 = 0)) = false), ((decide (x13.2 = 0)) = false), (false = false), (false = false)]) [hE, hE, hE, hY, hY, hN (.pk true), hE, hS, hS, hS, hS, hS, hN (.pk false), hE, hS, hS, hE, hE] (⟨[(0, pB false)], [], 0⟩) (.cons hg15 (.cons hg15 (.cons hg15 (.cons hg16 (.cons hg16 (.cons hg16 (.cons hg16 (.cons hg16 (.cons hg16 (.cons rfl (.cons rfl .nil)))))))))))
       ·replace ht := ite_f ht hg15
        have e := Option.some.inj ht
        subst e
        exact rg0 (obs := [((decide (x13.1 = [116, 99, 112, 33, 102, 115, 33, 53, 54, 52])) = false), ((decide (x13.1 = [116, 99, 112, 33, 102, 115, 33, 53, 54, 52])) = false), ((decide (x13.1 = [116, 99, 112, 33, 102, 115, 33, 53, 54, 52])) = false), (false = false), (false = false), (false = false), (false = false), (false = false), (false = false), (false = false)]) [hE, hE, hE, hS, hS, hN (.pk false), hE, hS, hS, hS, hS, hS, hE, hE, hS, hS, hE, hE] (⟨[(0, pB false)], [], 0⟩) (.cons hg15 (.cons hg15 (.cons hg15 (.cons rfl (.cons rfl (.cons rfl (.cons rfl (.cons rfl (.cons rfl (.cons rfl .nil))))))))))
      ·clear ht
       refine x_toret ?_
       obtain rfl := Option.some.inj h
       exact ret0 (.bool t19) (.refl _) (fun _ => rfl)

theorem c108 {name : Str} {r : Bool} (h : ref22_Secret name = some r) : CallOK Tryd.prog 108 [.str name] (.bool r) true := by
  apply ok108
  unfold ref22_Secret at h
  refine x_rg (rgn [hE] (⟨[(0, pS name)], [], 0⟩)) ?_
  obtain ⟨t3, ht, h⟩ := bind_some h
  refine x_rg (st2 := ⟨[(2, pB t3)], [], 0⟩) ?_ ?_
  ·rcases Bool.eq_false_or_eq_true (decide (0 < (List.length name : Int))) with hg1 | hg1
   ·replace ht := ite_t ht hg1
    obtain ⟨c2, hc2, ht⟩ := bind_some ht
    have e := Option.some.inj ht
    subst e
    exact rg0 [hE, hE, hE, hE, hY, (.y, (.sAt c2)), hY, hN (.pk true), hE] (⟨[(2, pB (decide ((c2.toNat : Int) = 33)))], [], 0⟩) (.cons hg1 (.cons hg1 (.cons hc2 (.cons hg1 (.cons hg1 .nil)))))
   ·replace ht := ite_f ht hg1
    have e := Option.some.inj ht
    subst e
    exact rg0 [hE, hE, hE, hE, hS, hS, hS, hN (.pk false), hE] (⟨[(2, pB false)], [], 0⟩) (.cons hg1 (.cons hg1 (.cons hg1 (.cons hg1 .nil))))
  ·clear ht
   refine x_toret ?_
   obtain rfl := Option.some.inj h
   exact ret0 (.bool t3) (.refl _) (fun _ => rfl)

theorem c86 {s_ : Str} {r : Bool} (h : ref22_Name s_ = some r) : CallOK Tryd.prog 86 [.str s_] (.bool r) true := by
  apply ok86
  unfold ref22_Name at h
  refine x_rg (rgn [hE] (⟨[(0, pS s_)], [], 0⟩)) ?_
  refine x_join (τ := Str) (fun t => ref22_Name_K1 t = some r) (fun t => { tm := [(0, .pv (.str t))], hp := [], nx := 0 }) ?_ ?_
  ·rintro p2 h
   replace h : ref22_Name_K1 p2 = some r := h
   unfold ref22_Name_K1 at h
   refine x_seq ?_
   refine x_rg (rgn [hE] (⟨[(0, pS p2), (3, pI 0)], [], 0⟩)) ?_
   refine x_block ?_
   refine kw0 (⟨[(0, pS p2), (3, pI 0)], [], 0⟩) ?_
   refine x_loop (σ := Int) h (fun s => ⟨[(0, pS p2), (3, pI s)], [], 0⟩) (by kernel_rfl) ?_ ?_
   ·rintro i
    kernel_rfl
   ·rintro i x12 h hx12
    replace h : ref22_Name_L12 p2 i = some x12 := h
    unfold ref22_Name_L12 at h
    refine x_seq ?_
    refine x_rg (rgn [hE, hE, hE, hE] (⟨[(0, pS p2), (3, pI i), (12, pB (decide (i < (List.length p2 : Int))))], [], 0⟩)) ?_
    refine x_cond _ rfl (fun hc13 => ?_) (fun hc13 => ?_)
    ·replace h := ite_t h hc13
     refine kw0 (⟨[(0, pS p2), (3, pI i)], [], 0⟩) ?_
     refine x_skip ?_
     refine x_tn ?_
     refine x_seq ?_
     refine x_block ?_
     obtain ⟨c14, hc14, h⟩ := bind_some h
     obtain ⟨t17, ht, h⟩ := bind_some h
     refine x_rg (st2 := ⟨[(0, pS p2), (3, pI i), (4, pB t17)], [], 0⟩) ?_ ?_
     ·rcases Bool.eq_false_or_eq_true (decide (97 ≤ (c14.toNat : Int))) with hg15 | hg15
      ·replace ht := ite_t ht hg15
       obtain ⟨c16, hc16, ht⟩ := bind_some ht
       have e := Option.some.inj ht
       subst e
       exact rg0 [hE, hE, hN (.sAt c14), hE, hE, hY, hY, (.y, (.sAt c16)), hY, hN (.pk true), hE] (⟨[(0, pS p2), (3, pI i), (4, pB (decide ((c16.toNat : Int) ≤ 122)))], [], 0⟩) (.cons hc14 (.cons hg15 (.cons hg15 (.cons hg15 (.cons hc16 (.cons hg15 (.cons hg15 .nil)))))))
      ·replace ht := ite_f ht hg15
       have e := Option.some.inj ht
       subst e
       exact rg0 [hE, hE, hN (.sAt c14), hE, hE, hS, hS, hS, hS, hN (.pk false), hE] (⟨[(0, pS p2), (3, pI i), (4, pB false)], [], 0⟩) (.cons hc14 (.cons hg15 (.cons hg15 (.cons hg15 (.cons hg15 (.cons hg15 .nil))))))
     ·clear ht
      obtain ⟨t30, ht, h⟩ := bind_some h
      refine x_rg (st2 := ⟨[(0, pS p2), (3, pI i), (55, pB t30)], [], 0⟩) ?_ ?_
      ·rcases Bool.eq_false_or_eq_true (!t17) with hg18 | hg18
       ·replace ht := ite_t ht hg18
        rcases Bool.eq_false_or_eq_true (decide (i = 0)) with hg19 | hg19
        ·replace ht := ite_t ht hg19
         have e := Option.some.inj ht
         subst e
         exact rg0 [hE, hE, hE, hY, hY, hY, hS, hS, hS, hS, hS, (.u, .e), (.u, .e), (.u, .e), (.u, .e), hS, hS, (.u, .e), (.u, .e), (.u, .e), (.u, .e), hS, hS, (.u, .e), (.u, .e), (.u, .e), (.u, .e), hS, hS, (.y, (.pk true)), hN (.pk true)] (⟨[(0, pS p2), (3, pI i), (55, pB true)], [], 0⟩) (.cons hg18 (.cons hg18 (.cons hg18 (.cons hg19 (.cons hg19 (.cons hg19 (.cons hg19 (.cons hg19 (.cons hg19 (.cons hg19 (.cons hg19 (.cons hg19 (.cons hg19 (.cons hg19 (.cons hg18 (.cons hg19 (.cons hg18 .nil)))))))))))))))))
        ·replace ht := ite_f ht hg19
         obtain ⟨c20, hc20, ht⟩ := bind_some ht
         rcases Bool.eq_false_or_eq_true (decide (48 ≤ (c20.toNat : Int))) with hg21 | hg21
         ·replace ht := ite_t ht hg21
          obtain ⟨c22, hc22, ht⟩ := bind_some ht
          rcases Bool.eq_false_or_eq_true (decide ((c22.toNat : Int) ≤ 57)) with hg23 | hg23
          ·replace ht := ite_t ht hg23
           have e := Option.some.inj ht
           subst e
           exact rg0 [hE, hE, hE, hY, hY, hY, hY, hY, (.y, (.sAt c20)), hY, hY, hY, hY, (.y, (.sAt c22)), hY, (.y, (.pk true)), hY, hS, hS, hS, hS, (.y, (.pk true)), hY, hS, hS, hS, hS, hY, hY, (.y, (.pk false)), hN (.pk true)] (⟨[(0, pS p2), (3, pI i), (55, pB false)], [], 0⟩) (.cons hg18 (.cons hg18 (.cons hg18 (.cons hg19 (.cons hg19 (.cons hg19 (.cons hc20 (.cons hg19 (.cons hg19 (.cons hg21 (.cons hg21 (.cons hg21 (.cons hc22 (.cons hg21 (.cons hg19 (.cons hg21 (.cons hg19 (.cons hg23 (.cons hg23 (.cons hg23 (.cons hg23 (.cons hg19 (.cons hg23 (.cons hg19 (.cons tt (.cons tt (.cons tt (.cons tt (.cons hg19 (.cons hg19 (.cons hg18 (.cons hg19 (.cons hg18 .nil)))))))))))))))))))))))))))))))))
          ·replace ht := ite_f ht hg23
           obtain ⟨c24, hc24, ht⟩ := bind_some ht
           rcases Bool.eq_false_or_eq_true (decide ((c24.toNat : Int) = 45)) with hg25 | hg25
           ·replace ht := ite_t ht hg25
            have e := Option.some.inj ht
            subst e
            exact rg0 [hE, hE, hE, hY, hY, hY, hY, hY, (.y, (.sAt c20)), hY, hY, hY, hY, (.y, (.sAt c22)), hY, (.y, (.pk true)), hY, hY, hY, (.y, (.sAt c24)), hY, (.y, (.pk false)), hY, hS, hS, hS, hS, (.y, (.pk true)), hY, (.y, (.pk false)), hN (.pk true)] (⟨[(0, pS p2), (3, pI i), (55, pB false)], [], 0⟩) (.cons hg18 (.cons hg18 (.cons hg18 (.cons hg19 (.cons hg19 (.cons hg19 (.cons hc20 (.cons hg19 (.cons hg19 (.cons hg21 (.cons hg21 (.cons hg21 (.cons hc22 (.cons hg21 (.cons hg19 (.cons hg21 (.cons hg19 (.cons hg23 (.cons hg23 (.cons hg23 (.cons hc24 (.cons hg23 (.cons hg19 (.cons hg23 (.cons hg19 (.cons hg25 (.cons hg25 (.cons hg25 (.cons hg25 (.cons hg19 (.cons hg25 (.cons hg19 (.cons hg18 (.cons hg19 (.cons hg18 .nil)))))))))))))))))))))))))))))))))))
           ·replace ht := ite_f ht hg25
            obtain ⟨c26, hc26, ht⟩ := bind_some ht
            have e := Option.some.inj ht
            subst e
            exact rg0 [hE, hE, hE, hY, hY, hY, hY, hY, (.y, (.sAt c20)), hY, hY, hY, hY, (.y, (.sAt c22)), hY, (.y, (.pk true)), hY, hY, hY, (.y, (.sAt c24)), hY, (.y, (.pk false)), hY, hY, hY, (.y, (.sAt c26)), hY, (.y, (.pk false)), hY, (.y, (.pk false)), hN (.pk true)] (⟨[(0, pS p2), (3, pI i), (55, pB (!(decide ((c26.toNat : Int) = 95))))], [], 0⟩) (.cons hg18 (.cons hg18 (.cons hg18 (.cons hg19 (.cons hg19 (.cons hg19 (.cons hc20 (.cons hg19 (.cons hg19 (.cons hg21 (.cons hg21 (.cons hg21 (.cons hc22 (.cons hg21 (.cons hg19 (.cons hg21 (.cons hg19 (.cons hg23 (.cons hg23 (.cons hg23 (.cons hc24 (.cons hg23 (.cons hg19 (.cons hg23 (.cons hg19 (.cons hg25 (.cons hg25 (.cons hg25 (.cons hc26 (.cons hg25 (.cons hg19 (.cons hg25 (.cons hg19 (.cons hg18 (.cons hg19 (.cons hg18 .nil))))))))))))))))))))))))))))))))))))
         ·replace ht := ite_f ht hg21
          obtain ⟨c27, hc27, ht⟩ := bind_some ht
          rcases Bool.eq_false_or_eq_true (decide ((c27.toNat : Int) = 45)) with hg28 | hg28
          ·replace ht := ite_t ht hg28
           have e := Option.some.inj ht
           subst e
           exact rg0 (obs := [((!t17) = true), ((!t17) = true), ((!t17) = true), ((decide (i = 0)) = false), ((decide (i = 0)) = false), ((decide (i = 0)) = false), (strAt p2 i = some c20), ((decide (i = 0)) = false), ((decide (i = 0)) = false), ((decide (48 ≤ (c20.toNat : Int))) = false), ((decide (48 ≤ (c20.toNat : Int))) = false), ((decide (48 ≤ (c20.toNat : Int))) = false), ((decide (48 ≤ (c20.toNat : Int))) = false), ((decide (i = 0)) = false), ((decide (48 ≤ (c20.toNat : Int))) = false), ((decide (i = 0)) = false), (false = false), (false = false), (false = false), (strAt p2 i = some c27), (false = false), ((decide (i = 0)) = false), ((decide (i = 0)) = false), ((decide ((c27.toNat : Int) = 45)) = true), ((decide ((c27.toNat : Int) = 45)) = true), ((decide ((c27.toNat : Int) = 45)) = true), ((decide ((c27.toNat : Int) = 45)) = true), ((decide (i = 0)) = false), ((decide ((c27.toNat : Int) = 45)) = true), ((decide (i = 0)) = false), ((!t17) = true), ((decide (i = 0)) = false), ((!t17) = true)]) [hE, hE, hE, hY, hY, hY, hY, hY, (.y, (.sAt c20)), hY, hY, hS, hS, hS, hS, (.y, (.pk false)), hY, hY, hY, (.y, (.sAt c27)), hY, hY, hY, hS, hS, hS, hS, (.y, (.pk true)), hY, (.y, (.pk false)), hN (.pk true)] (⟨[(0, pS p2), (3, pI i), (55, pB false)], [], 0⟩) (.cons hg18 (.cons hg18 (.cons hg18 (.cons hg19 (.cons hg19 (.cons hg19 (.cons hc20 (.cons hg19 (.cons hg19 (.cons hg21 (.cons hg21 (.cons hg21 (.cons hg21 (.cons hg19 (.cons hg21 (.cons hg19 (.cons rfl (.cons rfl (.cons rfl (.cons hc27 (.cons rfl (.cons hg19 (.cons hg19 (.cons hg28 (.cons hg28 (.cons hg28 (.cons hg28 (.cons hg19 (.cons hg28 (.cons hg19 (.cons hg18 (.cons hg19 (.cons hg18 .nil)))))))))))))))))))))))))))))))))
          ·replace ht := ite_f ht hg28
           obtain ⟨c29, hc29, ht⟩ := bind_some ht
           have e := Option.some.inj ht
           subst e
           exact rg0 (obs := [((!t17) = true), ((!t17) = true), ((!t17) = true), ((decide (i = 0)) = false), ((decide (i = 0)) = false), ((decide (i = 0)) = false), (strAt p2 i = some c20), ((decide (i = 0)) = false), ((decide (i = 0)) = false), ((decide (48 ≤ (c20.toNat : Int))) = false), ((decide (48 ≤ (c20.toNat : Int))) = false), ((decide (48 ≤ (c20.toNat : Int))) = false), ((decide (48 ≤ (c20.toNat : Int))) = false), ((decide (i = 0)) = false), ((decide (48 ≤ (c20.toNat : Int))) = false), ((decide (i = 0)) = false), (false = false), (false = false), (false = false), (strAt p2 i = some c27), (false = false), ((decide (i = 0)) = false), ((decide (i = 0)) = false), ((decide ((c27.toNat : Int) = 45)) = false), ((decide ((c27.toNat : Int) = 45)) = false), ((decide ((c27.toNat : Int) = 45)) = false), (strAt p2 i = some c29), ((decide ((c27.toNat : Int) = 45)) = false), ((decide (i = 0)) = false), ((decide ((c27.toNat : Int) = 45)) = false), ((decide (i = 0)) = false), ((!t17) = true), ((decide (i = 0)) = false), ((!t17) = true)]) [hE, hE, hE, hY, hY, hY, hY, hY, (.y, (.sAt c20)), hY, hY, hS, hS, hS, hS, (.y, (.pk false)), hY, hY, hY, (.y, (.sAt c27)), hY, hY, hY, hY, hY, (.y, (.sAt c29)), hY, (.y, (.pk false)), hY, (.y, (.pk false)), hN (.pk true)] (⟨[(0, pS p2), (3, pI i), (55, pB (!(decide ((c29.toNat : Int) = 95))))], [], 0⟩) (.cons hg18 (.cons hg18 (.cons hg18 (.cons hg19 (.cons hg19 (.cons hg19 (.cons hc20 (.cons hg19 (.cons hg19 (.cons hg21 (.cons hg21 (.cons hg21 (.cons hg21 (.cons hg19 (.cons hg21 (.cons hg19 (.cons rfl (.cons rfl (.cons rfl (.cons hc27 (.cons rfl (.cons hg19 (.cons hg19 (.cons hg28 (.cons hg28 (.cons hg28 (.cons hc29 (.cons hg28 (.cons hg19 (.cons hg28 (.cons hg19 (.cons hg18 (.cons hg19 (.cons hg18 .nil))))))))))))))))))))))))))))))))))
       ·replace ht := ite_f ht hg18
        have e := Option.some.inj ht
        subst e
        exact rg0 [hE, hE, hE, hS, hS, hS, (.u, .e), (.u, .e), (.u, .e), (.u, .e), (.u, .e), (.u, .e), (.u, .e), (.u, .e), (.u, .e), (.u, .e), (.u, .e), (.u, .e), (.u, .e), (.u, .e), (.u, .e), (.u, .e), (.u, .e), (.u, .e), (.u, .e), (.u, .e), (.u, .e), (.u, .e), (.u, .e), hS, hN (.pk false)] (⟨[(0, pS p2), (3, pI i), (55, pB false)], [], 0⟩) (.cons hg18 (.cons hg18 (.cons hg18 (.cons hg18 (.cons hg18 .nil)))))
      ·clear ht
       refine x_cond _ rfl (fun hc31 => ?_) (fun hc31 => ?_)
       ·replace h := ite_t h hc31
        refine x_rg (rgn [hE] (⟨[(2, pB false)], [], 0⟩)) ?_
        refine x_toret ?_
        refine x_br ?_
        refine x_tr ?_
        refine x_tr ?_
        replace h := done_leaf h hx12
        refine x_br ?_
        refine x_tr ?_
        obtain rfl := Option.some.inj h
        exact ret0 (.bool false) (.refl _) (fun _ => rfl)
       ·replace h := ite_f h hc31
        refine kw0 (⟨[(0, pS p2), (3, pI i)], [], 0⟩) ?_
        refine x_skip ?_
        refine x_bn ?_
        refine x_tn ?_
        refine x_rgt (rgn [hE, hE, hE] (⟨[(0, pS p2), (3, pI (IntKind.wrap .i64 (i + 1)))], [], 0⟩)) ?_
        refine x_tn ?_
        exact ⟨_, (Option.some.inj h).symm, by kernel_rfl⟩
    ·replace h := ite_f h hc13
     refine kw0 (⟨[(0, pS p2)], [], 0⟩) ?_
     refine x_exit ?_
     refine x_te ?_
     refine x_te ?_
     replace h := done_leaf h hx12
     refine x_bh ?_
     refine x_tn ?_
     refine x_rg (st2 := ⟨[(2, pB ((decide (1 ≤ (List.length p2 : Int))) && (decide ((List.length p2 : Int) ≤ 32))))], [], 0⟩) ?_ ?_
     ·rcases Bool.eq_false_or_eq_true (decide (1 ≤ (List.length p2 : Int))) with hg32 | hg32
      ·exact rg [hE, hE, hE, hE, hY, hY, hY, hN (.pk true), hE] (⟨[(2, pB (decide ((List.length p2 : Int) ≤ 32)))], [], 0⟩) (.cons hg32 (.cons hg32 (.cons hg32 (.cons hg32 .nil)))) (.of_eq (by simp only [hg32, bs, reduceIte]))
      ·exact rg [hE, hE, hE, hE, hS, hS, hS, hN (.pk false), hE] (⟨[(2, pB false)], [], 0⟩) (.cons hg32 (.cons hg32 (.cons hg32 (.cons hg32 .nil)))) (.of_eq (by simp only [hg32, bs, reduceIte]))
     ·refine x_toret ?_
      obtain rfl := Option.some.inj h
      exact ret0 (.bool ((decide (1 ≤ (List.length p2 : Int))) && (decide ((List.length p2 : Int) ≤ 32)))) (.refl _) (fun _ => rfl)
  ·obtain ⟨x34, hx34, h⟩ := bind_some h
   refine x_rg (rg0 [hE, hN (.cal [] (.bool x34) true)] (⟨[(0, pS s_), (6, pB x34)], [], 0⟩) (.cons (c108 hx34) .nil)) ?_
   refine x_cond _ rfl (fun hc35 => ?_) (fun hc35 => ?_)
   ·replace h := ite_t h hc35
    obtain ⟨x36, hx36, h⟩ := bind_some h
    refine x_rgt (rg0 [hE, hN (.cutS x36), hE] (⟨[(0, pS x36)], [], 0⟩) (.cons hx36 .nil)) ?_
    refine x_tn ?_
    exact ⟨x36, h, by kernel_rfl⟩
   ·replace h := ite_f h hc35
    refine kw0 (⟨[(0, pS s_)], [], 0⟩) ?_
    refine x_skip ?_
    refine x_tn ?_
    exact ⟨s_, h, by kernel_rfl⟩

theorem c87 {s_ : Str} {r : Bool} (h : ref22_plain s_ = some r) : CallOK Tryd.prog 87 [.str s_] (.bool r) true := by
  apply ok87
  unfold ref22_plain at h
  refine x_rg (rgn [hE] (⟨[(0, pS s_)], [], 0⟩)) ?_
  refine x_seq ?_
  refine x_rg (rgn [hE] (⟨[(0, pS s_), (3, pI 0)], [], 0⟩)) ?_
  refine x_block ?_
  refine kw0 (⟨[(0, pS s_), (3, pI 0)], [], 0⟩) ?_
  refine x_loop (σ := Int) h (fun s => ⟨[(0, pS s_), (3, pI s)], [], 0⟩) (by kernel_rfl) ?_ ?_
  ·rintro i
   kernel_rfl
  ·rintro i x10 h hx10
   replace h : ref22_plain_L10 s_ i = some x10 := h
   unfold ref22_plain_L10 at h
   refine x_seq ?_
   refine x_rg (rgn [hE, hE, hE, hE] (⟨[(0, pS s_), (3, pI i), (7, pB (decide (i < (List.length s_ : Int))))], [], 0⟩)) ?_
   refine x_cond _ rfl (fun hc11 => ?_) (fun hc11 => ?_)
   ·replace h := ite_t h hc11
    refine kw0 (⟨[(0, pS s_), (3, pI i)], [], 0⟩) ?_
    refine x_skip ?_
    refine x_tn ?_
    refine x_seq ?_
    refine x_block ?_
    obtain ⟨c12, hc12, h⟩ := bind_some h
    obtain ⟨t17, ht, h⟩ := bind_some h
    refine x_rg (st2 := ⟨[(0, pS s_), (3, pI i), (25, pB t17)], [], 0⟩) ?_ ?_
    ·rcases Bool.eq_false_or_eq_true (decide ((c12.toNat : Int) = 0)) with hg13 | hg13
     ·replace ht := ite_t ht hg13
      have e := Option.some.inj ht
      subst e
      exact rg0 [hE, hE, hN (.sAt c12), hE, hE, hS, hS, hS, hS, hN (.pk true), hE, hS, hS, hS, hS, hE] (⟨[(0, pS s_), (3, pI i), (25, pB true)], [], 0⟩) (.cons hc12 (.cons hg13 (.cons hg13 (.cons hg13 (.cons hg13 (.cons hg13 (.cons tt (.cons tt (.cons tt (.cons tt .nil))))))))))
     ·replace ht := ite_f ht hg13
      obtain ⟨c14, hc14, ht⟩ := bind_some ht
      rcases Bool.eq_false_or_eq_true (decide ((c14.toNat : Int) = 10)) with hg15 | hg15
      ·replace ht := ite_t ht hg15
       have e := Option.some.inj ht
       subst e
       exact rg0 [hE, hE, hN (.sAt c12), hE, hE, hY, hY, (.y, (.sAt c14)), hY, hN (.pk false), hE, hS, hS, hS, hS, hN (.pk true)] (⟨[(0, pS s_), (3, pI i), (25, pB true)], [], 0⟩) (.cons hc12 (.cons hg13 (.cons hg13 (.cons hg13 (.cons hc14 (.cons hg13 (.cons hg13 (.cons hg15 (.cons hg15 (.cons hg15 (.cons hg15 (.cons hg15 .nil))))))))))))
      ·replace ht := ite_f ht hg15
       obtain ⟨c16, hc16, ht⟩ := bind_some ht
       have e := Option.some.inj ht
       subst e
       exact rg0 [hE, hE, hN (.sAt c12), hE, hE, hY, hY, (.y, (.sAt c14)), hY, hN (.pk false), hE, hY, hY, (.y, (.sAt c16)), hY, hN (.pk false)] (⟨[(0, pS s_), (3, pI i), (25, pB (decide ((c16.toNat : Int) = 13)))], [], 0⟩) (.cons hc12 (.cons hg13 (.cons hg13 (.cons hg13 (.cons hc14 (.cons hg13 (.cons hg13 (.cons hg15 (.cons hg15 (.cons hg15 (.cons hc16 (.cons hg15 (.cons hg15 .nil)))))))))))))
    ·clear ht
     refine x_cond _ rfl (fun hc18 => ?_) (fun hc18 => ?_)
     ·replace h := ite_t h hc18
      refine x_rg (rgn [hE] (⟨[(2, pB false)], [], 0⟩)) ?_
      refine x_toret ?_
      refine x_br ?_
      refine x_tr ?_
      refine x_tr ?_
      replace h := done_leaf h hx10
      refine x_br ?_
      refine x_tr ?_
      obtain rfl := Option.some.inj h
      exact ret0 (.bool false) (.refl _) (fun _ => rfl)
     ·replace h := ite_f h hc18
      refine kw0 (⟨[(0, pS s_), (3, pI i)], [], 0⟩) ?_
      refine x_skip ?_
      refine x_bn ?_
      refine x_tn ?_
      refine x_rgt (rgn [hE, hE, hE] (⟨[(0, pS s_), (3, pI (IntKind.wrap .i64 (i + 1)))], [], 0⟩)) ?_
      refine x_tn ?_
      exact ⟨_, (Option.some.inj h).symm, by kernel_rfl⟩
   ·replace h := ite_f h hc11
    refine kw0 (⟨[], [], 0⟩) ?_
    refine x_exit ?_
    refine x_te ?_
    refine x_te ?_
    replace h := done_leaf h hx10
    refine x_bh ?_
    refine x_tn ?_
    refine x_rg (rgn [hE] (⟨[(2, pB true)], [], 0⟩)) ?_
    refine x_toret ?_
    obtain rfl := Option.some.inj h
    exact ret0 (.bool true) (.refl _) (fun _ => rfl)

theorem c61 {before : (List api_Attr)} {a : api_Attr} {r : Int} (h : ref22_one before a = some r) : CallOK Tryd.prog 61 [.sl (some 3) (List.map enc_api_Attr before), enc_api_Attr a] (.int .i64 r) true := by
  apply ok61
  unfold ref22_one at h
  refine x_rg (rgn [hE, hE] (⟨[(0, pL (some 3) enc_api_Attr before), (3, .optr 0 0 0)], [(0, some (.p (some 3) [enc_api_Attr a]))], 1⟩)) ?_
  refine x_seq ?_
  refine x_block ?_
  refine x_rg (rg0 [hE, hN (.len (List.length before : Int)), hE, hE] (⟨[(0, pL (some 3) enc_api_Attr before), (3, .optr 0 0 0), (6, pB (decide (32 ≤ (List.length before : Int))))], [(0, some (.p (some 3) [enc_api_Attr a]))], 1⟩) (.cons (lenM enc_api_Attr before) .nil)) ?_
  refine x_cond _ rfl (fun hc1 => ?_) (fun hc1 => ?_)
  ·replace h := ite_t h hc1
   refine x_rg (rgn [hE] (⟨[(4, pI 22)], [], 0⟩)) ?_
   refine x_toret ?_
   refine x_br ?_
   refine x_tr ?_
   obtain rfl := Option.some.inj h
   exact ret0 (.int .i64 22) (.refl _) (fun _ => rfl)
  ·replace h := ite_f h hc1
   obtain ⟨x2, hx2, h⟩ := bind_some h
   refine x_rg (rg0 [hE, hE, hN (.cal [] (.bool x2) true), hE, hE] (⟨[(0, pL (some 3) enc_api_Attr before), (3, .optr 0 0 0), (10, pB (!x2))], [(0, some (.p (some 3) [enc_api_Attr a]))], 1⟩) (.cons (c86 hx2) .nil)) ?_
   refine x_cond _ rfl (fun hc3 => ?_) (fun hc3 => ?_)
   ·replace h := ite_t h hc3
    refine x_rg (rgn [hE] (⟨[(4, pI 6)], [], 0⟩)) ?_
    refine x_toret ?_
    refine x_br ?_
    refine x_tr ?_
    obtain rfl := Option.some.inj h
    exact ret0 (.int .i64 6) (.refl _) (fun _ => rfl)
   ·replace h := ite_f h hc3
    obtain ⟨t8, ht, h⟩ := bind_some h
    refine x_rg (st2 := ⟨[(0, pL (some 3) enc_api_Attr before), (3, .optr 0 0 0), (15, pB t8)], [(0, some (.p (some 3) [enc_api_Attr a]))], 1⟩) ?_ ?_
    ·rcases Bool.eq_false_or_eq_true a.Query with hg4 | hg4
     ·replace ht := ite_t ht hg4
      rcases Bool.eq_false_or_eq_true (!decide (a.Value = [])) with hg5 | hg5
      ·replace ht := ite_t ht hg5
       have e := Option.some.inj ht
       subst e
       exact rg0 [hE, hE, hE, hY, hY, hY, hN (.pk true), hE, hS, hS, hS, hS, hN (.pk true), hE] (⟨[(0, pL (some 3) enc_api_Attr before), (3, .optr 0 0 0), (15, pB true)], [(0, some (.p (some 3) [enc_api_Attr a]))], 1⟩) (.cons hg4 (.cons hg4 (.cons hg4 (.cons hg4 (.cons hg5 (.cons hg5 (.cons hg5 (.cons hg5 (.cons hg5 .nil)))))))))
      ·replace ht := ite_f ht hg5
       obtain ⟨x6, hx6, ht⟩ := bind_some ht
       have e := Option.some.inj ht
       subst e
       exact rg0 [hE, hE, hE, hY, hY, hY, hN (.pk true), hE, hY, hY, (.y, (.cal [] (.bool x6) true)), hY, hN (.pk false), hE] (⟨[(0, pL (some 3) enc_api_Attr before), (3, .optr 0 0 0), (15, pB (!x6))], [(0, some (.p (some 3) [enc_api_Attr a]))], 1⟩) (.cons hg4 (.cons hg4 (.cons hg4 (.cons hg4 (.cons hg5 (.cons hg5 (.cons hg5 (.cons (c87 hx6) (.cons hg5 (.cons hg5 .nil))))))))))
     ·replace ht := ite_f ht hg4
      obtain ⟨x7, hx7, ht⟩ := bind_some ht
      have e := Option.some.inj ht
      subst e
      exact rg0 (obs := [(a.Query = false), (a.Query = false), (a.Query = false), (a.Query = false), (false = false), (false = false), (false = false), (CallOK Tryd.prog 87 [.str a.Value] (.bool x7) true), (false = false)]) [hE, hE, hE, hS, hS, hS, hN (.pk false), hE, hY, hY, (.y, (.cal [] (.bool x7) true)), hY, hE, hE] (⟨[(0, pL (some 3) enc_api_Attr before), (3, .optr 0 0 0), (15, pB (!x7))], [(0, some (.p (some 3) [enc_api_Attr a]))], 1⟩) (.cons hg4 (.cons hg4 (.cons hg4 (.cons hg4 (.cons rfl (.cons rfl (.cons rfl (.cons (c87 hx7) (.cons rfl .nil)))))))))
    ·clear ht
     refine x_cond _ rfl (fun hc9 => ?_) (fun hc9 => ?_)
     ·replace h := ite_t h hc9
      refine x_rg (rgn [hE] (⟨[(4, pI 2)], [], 0⟩)) ?_
      refine x_toret ?_
      refine x_br ?_
      refine x_tr ?_
      obtain rfl := Option.some.inj h
      exact ret0 (.int .i64 2) (.refl _) (fun _ => rfl)
     ·replace h := ite_f h hc9
      refine x_rg (rgn [hE, hE, hE, hE, hE] (⟨[(0, pL (some 3) enc_api_Attr before), (3, .optr 0 0 0), (29, pB (decide (1024 < (List.length a.Value : Int))))], [(0, some (.p (some 3) [enc_api_Attr a]))], 1⟩)) ?_
      refine x_cond _ rfl (fun hc10 => ?_) (fun hc10 => ?_)
      ·replace h := ite_t h hc10
       refine x_rg (rgn [hE] (⟨[(4, pI 4)], [], 0⟩)) ?_
       refine x_toret ?_
       refine x_br ?_
       refine x_tr ?_
       obtain rfl := Option.some.inj h
       exact ret0 (.int .i64 4) (.refl _) (fun _ => rfl)
      ·replace h := ite_f h hc10
       refine kw0 (⟨[(0, pL (some 3) enc_api_Attr before), (3, .optr 0 0 0)], [(0, some (.p (some 3) [enc_api_Attr a]))], 1⟩) ?_
       refine x_skip ?_
       refine x_bn ?_
       refine x_tn ?_
       refine x_seq ?_
       refine x_rg (rgn [hE] (⟨[(0, pL (some 3) enc_api_Attr before), (3, .optr 0 0 0), (5, pI 0)], [(0, some (.p (some 3) [enc_api_Attr a]))], 1⟩)) ?_
       refine x_block ?_
       refine kw0 (⟨[(0, pL (some 3) enc_api_Attr before), (3, .optr 0 0 0), (5, pI 0)], [(0, some (.p (some 3) [enc_api_Attr a]))], 1⟩) ?_
       refine x_loop (σ := Int) h (fun s => ⟨[(0, pL (some 3) enc_api_Attr before), (3, .optr 0 0 0), (5, pI s)], [(0, some (.p (some 3) [enc_api_Attr a]))], 1⟩) (by kernel_rfl) ?_ ?_
       ·rintro i
        kernel_rfl
       ·rintro i x15 h hx15
        replace h : ref22_one_L15 before a i = some x15 := h
        unfold ref22_one_L15 at h
        refine x_seq ?_
        refine x_rg (rg0 [hE, hE, hN (.len (List.length before : Int)), hE] (⟨[(0, pL (some 3) enc_api_Attr before), (3, .optr 0 0 0), (5, pI i), (37, pB (decide (i < (List.length before : Int))))], [(0, some (.p (some 3) [enc_api_Attr a]))], 1⟩) (.cons (lenM enc_api_Attr before) .nil)) ?_
        refine x_cond _ rfl (fun hc16 => ?_) (fun hc16 => ?_)
        ·replace h := ite_t h hc16
         refine kw0 (⟨[(0, pL (some 3) enc_api_Attr before), (3, .optr 0 0 0), (5, pI i)], [(0, some (.p (some 3) [enc_api_Attr a]))], 1⟩) ?_
         refine x_skip ?_
         refine x_tn ?_
         refine x_seq ?_
         refine x_block ?_
         obtain ⟨x17, hx17, h⟩ := bind_some h
         refine x_rg (rg0 [hE, hE, hN (.pAt (enc_api_Attr x17)), hE, hE, hE, hE, hE] (⟨[(0, pL (some 3) enc_api_Attr before), (3, .optr 0 0 0), (5, pI i), (47, pB (decide (x17.Name = a.Name)))], [(0, some (.p (some 3) [enc_api_Attr a]))], 1⟩) (.cons (lsAt_map (f := enc_api_Attr) hx17) .nil)) ?_
         refine x_cond _ rfl (fun hc18 => ?_) (fun hc18 => ?_)
         ·replace h := ite_t h hc18
          refine x_rg (rgn [hE] (⟨[(4, pI 7)], [], 0⟩)) ?_
          refine x_toret ?_
          refine x_br ?_
          refine x_tr ?_
          refine x_tr ?_
          replace h := done_leaf h hx15
          refine x_br ?_
          refine x_tr ?_
          obtain rfl := Option.some.inj h
          exact ret0 (.int .i64 7) (.refl _) (fun _ => rfl)
         ·replace h := ite_f h hc18
          refine kw0 (⟨[(0, pL (some 3) enc_api_Attr before), (3, .optr 0 0 0), (5, pI i)], [(0, some (.p (some 3) [enc_api_Attr a]))], 1⟩) ?_
          refine x_skip ?_
          refine x_bn ?_
          refine x_tn ?_
          refine x_rgt (rgn [hE, hE, hE] (⟨[(0, pL (some 3) enc_api_Attr before), (3, .optr 0 0 0), (5, pI (IntKind.wrap .i64 (i + 1)))], [(0, some (.p (some 3) [enc_api_Attr a]))], 1⟩)) ?_
          refine x_tn ?_
          exact ⟨_, (Option.some.inj h).symm, by kernel_rfl⟩
        ·replace h := ite_f h hc16
         refine kw0 (⟨[], [], 0⟩) ?_
         refine x_exit ?_
         refine x_te ?_
         refine x_te ?_
         replace h := done_leaf h hx15
         refine x_bh ?_
         refine x_tn ?_
         refine x_rg (rgn [hE] (⟨[(4, pI 0)], [], 0⟩)) ?_
         refine x_toret ?_
         obtain rfl := Option.some.inj h
         exact ret0 (.int .i64 0) (.refl _) (fun _ => rfl)

theorem c40 {l : (List api_Attr)} {r : Bool} (h : ref27_asks l = some r) : CallOK Tryd.prog 40 [.sl (some 3) (List.map enc_api_Attr l)] (.bool r) true := by
  apply ok40
  unfold ref27_asks at h
  refine x_rg (rgn [hE] (⟨[(0, pL (some 3) enc_api_Attr l)], [], 0⟩)) ?_
  refine x_seq ?_
  refine x_rg (rgn [hE] (⟨[(0, pL (some 3) enc_api_Attr l), (3, pI 0)], [], 0⟩)) ?_
  refine x_block ?_
  refine kw0 (⟨[(0, pL (some 3) enc_api_Attr l), (3, pI 0)], [], 0⟩) ?_
  refine x_loop (σ := Int) h (fun s => ⟨[(0, pL (some 3) enc_api_Attr l), (3, pI s)], [], 0⟩) (by kernel_rfl) ?_ ?_
  ·rintro i
   kernel_rfl
  ·rintro i x5 h hx5
   replace h : ref27_asks_L5 l i = some x5 := h
   unfold ref27_asks_L5 at h
   refine x_seq ?_
   refine x_rg (rg0 [hE, hE, hN (.len (List.length l : Int)), hE] (⟨[(0, pL (some 3) enc_api_Attr l), (3, pI i), (7, pB (decide (i < (List.length l : Int))))], [], 0⟩) (.cons (lenM enc_api_Attr l) .nil)) ?_
   refine x_cond _ rfl (fun hc6 => ?_) (fun hc6 => ?_)
   ·replace h := ite_t h hc6
    refine kw0 (⟨[(0, pL (some 3) enc_api_Attr l), (3, pI i)], [], 0⟩) ?_
    refine x_skip ?_
    refine x_tn ?_
    refine x_seq ?_
    refine x_block ?_
    obtain ⟨x7, hx7, h⟩ := bind_some h
    refine x_rg (rg0 [hE, hE, hN (.pAt (enc_api_Attr x7)), hE, hE] (⟨[(0, pL (some 3) enc_api_Attr l), (3, pI i), (14, pB x7.Query)], [], 0⟩) (.cons (lsAt_map (f := enc_api_Attr) hx7) .nil)) ?_
    refine x_cond _ rfl (fun hc8 => ?_) (fun hc8 => ?_)
    ·replace h := ite_t h hc8
     refine x_rg (rgn [hE] (⟨[(2, pB true)], [], 0⟩)) ?_
     refine x_toret ?_
     refine x_br ?_
     refine x_tr ?_
     refine x_tr ?_
     replace h := done_leaf h hx5
     refine x_br ?_
     refine x_tr ?_
     obtain rfl := Option.some.inj h
     exact ret0 (.bool true) (.refl _) (fun _ => rfl)
    ·replace h := ite_f h hc8
     refine kw0 (⟨[(0, pL (some 3) enc_api_Attr l), (3, pI i)], [], 0⟩) ?_
     refine x_skip ?_
     refine x_bn ?_
     refine x_tn ?_
     refine x_rgt (rgn [hE, hE, hE] (⟨[(0, pL (some 3) enc_api_Attr l), (3, pI (IntKind.wrap .i64 (i + 1)))], [], 0⟩)) ?_
     refine x_tn ?_
     exact ⟨_, (Option.some.inj h).symm, by kernel_rfl⟩
   ·replace h := ite_f h hc6
    refine kw0 (⟨[], [], 0⟩) ?_
    refine x_exit ?_
    refine x_te ?_
    refine x_te ?_
    replace h := done_leaf h hx5
    refine x_bh ?_
    refine x_tn ?_
    refine x_rg (rgn [hE] (⟨[(2, pB false)], [], 0⟩)) ?_
    refine x_toret ?_
    obtain rfl := Option.some.inj h
    exact ret0 (.bool false) (.refl _) (fun _ => rfl)

theorem c30 {l : (List api_Attr)} {r : Int} (h : ref22_Check l = some r) : CallOK Tryd.prog 30 [.sl (some 3) (List.map enc_api_Attr l)] (.int .i64 r) true := by
  apply ok30
  unfold ref22_Check at h
  refine x_rg (rgn [hE] (⟨[(0, pL (some 3) enc_api_Attr l)], [], 0⟩)) ?_
  refine x_seq ?_
  refine x_rg (rgn [hE] (⟨[(0, pL (some 3) enc_api_Attr l), (3, pI 0)], [], 0⟩)) ?_
  refine x_block ?_
  refine kw0 (⟨[(0, pL (some 3) enc_api_Attr l), (3, pI 0)], [], 0⟩) ?_
  refine x_loop (σ := Int) h (fun s => ⟨[(0, pL (some 3) enc_api_Attr l), (3, pI s)], [], 0⟩) (by kernel_rfl) ?_ ?_
  ·rintro i
   kernel_rfl
  ·rintro i x7 h hx7
   replace h : ref22_Check_L7 l i = some x7 := h
   unfold ref22_Check_L7 at h
   refine x_seq ?_
   refine x_rg (rg0 [hE, hE, hN (.len (List.length l : Int)), hE] (⟨[(0, pL (some 3) enc_api_Attr l), (3, pI i), (8, pB (decide (i < (List.length l : Int))))], [], 0⟩) (.cons (lenM enc_api_Attr l) .nil)) ?_
   refine x_cond _ rfl (fun hc8 => ?_) (fun hc8 => ?_)
   ·replace h := ite_t h hc8
    refine kw0 (⟨[(0, pL (some 3) enc_api_Attr l), (3, pI i)], [], 0⟩) ?_
    refine x_skip ?_
    refine x_tn ?_
    refine x_seq ?_
    refine x_block ?_
    obtain ⟨x9, hx9, h⟩ := bind_some h
    obtain ⟨x10, hx10, h⟩ := bind_some h
    obtain ⟨x11, hx11, h⟩ := bind_some h
    refine x_rg (rg0 (obs := [(cut (List.map enc_api_Attr l) 0 i = some (List.map enc_api_Attr x9)), (lsAt (List.map enc_api_Attr l) i = some (enc_api_Attr x10)), (CallOK Tryd.prog 61 [.sl (some 3) (List.map enc_api_Attr x9), enc_api_Attr x10] (.int .i64 x11) true)]) [hE, hE, hN (.cutP (List.map enc_api_Attr x9)), hE, hE, hN (.pAt (enc_api_Attr x10)), hE, hN (.cal [] (.int .i64 x11) true), hE] (⟨[(0, pL (some 3) enc_api_Attr l), (3, pI i), (4, pI x11)], [], 0⟩) (.cons (cut_map hx9) (.cons (lsAt_map hx10) (.cons (c61 hx11) .nil)))) ?_
    refine x_rg (rgn [hE, hE] (⟨[(0, pL (some 3) enc_api_Attr l), (3, pI i), (4, pI x11), (20, pB (!decide (x11 = 0)))], [], 0⟩)) ?_
    refine x_cond _ rfl (fun hc12 => ?_) (fun hc12 => ?_)
    ·replace h := ite_t h hc12
     refine x_rg (rgn [hE, hE] (⟨[(2, pI x11)], [], 0⟩)) ?_
     refine x_toret ?_
     refine x_br ?_
     refine x_tr ?_
     refine x_tr ?_
     replace h := done_leaf h hx7
     refine x_br ?_
     refine x_tr ?_
     obtain rfl := Option.some.inj h
     exact ret0 (.int .i64 x11) (.refl _) (fun _ => rfl)
    ·replace h := ite_f h hc12
     refine kw0 (⟨[(0, pL (some 3) enc_api_Attr l), (3, pI i)], [], 0⟩) ?_
     refine x_skip ?_
     refine x_bn ?_
     refine x_tn ?_
     refine x_rgt (rgn [hE, hE, hE] (⟨[(0, pL (some 3) enc_api_Attr l), (3, pI (IntKind.wrap .i64 (i + 1)))], [], 0⟩)) ?_
     refine x_tn ?_
     exact ⟨_, (Option.some.inj h).symm, by kernel_rfl⟩
   ·replace h := ite_f h hc8
    refine kw0 (⟨[], [], 0⟩) ?_
    refine x_exit ?_
    refine x_te ?_
    refine x_te ?_
    replace h := done_leaf h hx7
    refine x_bh ?_
    refine x_tn ?_
    refine x_rg (rgn [hE] (⟨[(2, pI 0)], [], 0⟩)) ?_
    refine x_toret ?_
    obtain rfl := Option.some.inj h
    exact ret0 (.int .i64 0) (.refl _) (fun _ => rfl)

theorem c19 {l : (List api_Entry)} {r : Bool} (h : law27_small l = some r) : CallOK Tryd.prog 19 [.sl (some 1) (List.map enc_api_Entry l)] (.bool r) true := by
  apply ok19
  unfold law27_small at h
  refine x_rg (rgn [hE] (⟨[(0, pL (some 1) enc_api_Entry l)], [], 0⟩)) ?_
  refine x_seq ?_
  refine x_rg (rg0 [hE, hN (.len (List.length l : Int)), hE] (⟨[(0, pL (some 1) enc_api_Entry l), (8, pB (decide (300 < (List.length l : Int))))], [], 0⟩) (.cons (lenM enc_api_Entry l) .nil)) ?_
  refine x_cond _ rfl (fun hc1 => ?_) (fun hc1 => ?_)
  ·replace h := ite_t h hc1
   refine x_rg (rgn [hE] (⟨[(2, pB false)], [], 0⟩)) ?_
   refine x_toret ?_
   refine x_tr ?_
   obtain rfl := Option.some.inj h
   exact ret0 (.bool false) (.refl _) (fun _ => rfl)
  ·replace h := ite_f h hc1
   refine kw0 (⟨[(0, pL (some 1) enc_api_Entry l)], [], 0⟩) ?_
   refine x_skip ?_
   refine x_tn ?_
   refine x_rg (rgn [hE] (⟨[(0, pL (some 1) enc_api_Entry l), (3, pI 0)], [], 0⟩)) ?_
   refine x_seq ?_
   refine x_rg (rg0 [hE, hN (.len (List.length l : Int)), hE] (⟨[(0, pL (some 1) enc_api_Entry l), (3, pI 0), (10, pI (List.length l : Int)), (11, pI 0)], [], 0⟩) (.cons (lenM enc_api_Entry l) .nil)) ?_
   refine x_block ?_
   refine kw0 (⟨[(0, pL (some 1) enc_api_Entry l), (3, pI 0), (10, pI (List.length l : Int)), (11, pI 0)], [], 0⟩) ?_
   refine x_loop (σ := (Int × Int)) h (fun s => ⟨[(0, pL (some 1) enc_api_Entry l), (3, pI s.1), (10, pI (List.length l : Int)), (11, pI s.2)], [], 0⟩) (by kernel_rfl) ?_ ?_
   ·rintro ⟨n, v25⟩
    kernel_rfl
   ·rintro ⟨n, v25⟩ x26 h hx26
    replace h : law27_small_L26 l n v25 = some x26 := h
    unfold law27_small_L26 at h
    refine x_rg (rgn [hE] (⟨[(0, pL (some 1) enc_api_Entry l), (3, pI n), (10, pI (List.length l : Int)), (11, pI v25), (12, pB (decide (v25 < (List.length l : Int))))], [], 0⟩)) ?_
    refine x_seq ?_
    refine x_cond _ rfl (fun hc27 => ?_) (fun hc27 => ?_)
    ·replace h := ite_t h hc27
     refine kw0 (⟨[(0, pL (some 1) enc_api_Entry l), (3, pI n), (10, pI (List.length l : Int)), (11, pI v25)], [], 0⟩) ?_
     refine x_skip ?_
     refine x_tn ?_
     refine x_seq ?_
     refine x_block ?_
     refine x_rg (rgn [hE, hE] (⟨[(0, pL (some 1) enc_api_Entry l), (3, pI n), (4, pI v25), (10, pI (List.length l : Int)), (11, pI v25)], [], 0⟩)) ?_
     obtain ⟨x28, hx28, h⟩ := bind_some h
     refine x_rg (rg0 [hE, hE, hE, hN (.pAt (enc_api_Entry x28)), hE, hE, hN (.len (List.length x28.Attrs : Int)), hE, hE] (⟨[(0, pL (some 1) enc_api_Entry l), (3, pI (IntKind.wrap .i64 (n + (List.length x28.Attrs : Int)))), (4, pI v25), (10, pI (List.length l : Int)), (11, pI v25)], [], 0⟩) (.cons (lsAt_map (f := enc_api_Entry) hx28) (.cons (lenM enc_api_Attr x28.Attrs) .nil))) ?_
     refine x_seq ?_
     refine x_rg (rgn [hE, hE] (⟨[(0, pL (some 1) enc_api_Entry l), (3, pI (IntKind.wrap .i64 (n + (List.length x28.Attrs : Int)))), (4, pI v25), (10, pI (List.length l : Int)), (11, pI v25), (23, pB (decide (600 < (IntKind.wrap .i64 (n + (List.length x28.Attrs : Int))))))], [], 0⟩)) ?_
     refine x_cond _ rfl (fun hc29 => ?_) (fun hc29 => ?_)
     ·replace h := ite_t h hc29
      refine x_rg (rgn [hE] (⟨[(2, pB false)], [], 0⟩)) ?_
      refine x_toret ?_
      refine x_tr ?_
      refine x_br ?_
      refine x_tr ?_
      refine x_tr ?_
      replace h := done_leaf h hx26
      refine x_br ?_
      refine x_tr ?_
      obtain rfl := Option.some.inj h
      exact ret0 (.bool false) (.refl _) (fun _ => rfl)
     ·replace h := ite_f h hc29
      refine kw0 (⟨[(0, pL (some 1) enc_api_Entry l), (3, pI (IntKind.wrap .i64 (n + (List.length x28.Attrs : Int)))), (4, pI v25), (10, pI (List.length l : Int)), (11, pI v25)], [], 0⟩) ?_
      refine x_skip ?_
      refine x_tn ?_
      obtain ⟨x30, hx30, h⟩ := bind_some h
      refine x_rg (rg0 [hE, hE, hN (.pAt (enc_api_Entry x30)), hE, hE, hN (.len (List.length x30.Attrs : Int)), hE] (⟨[(0, pL (some 1) enc_api_Entry l), (3, pI (IntKind.wrap .i64 (n + (List.length x28.Attrs : Int)))), (4, pI v25), (10, pI (List.length l : Int)), (11, pI v25), (29, pI (List.length x30.Attrs : Int)), (30, pI 0)], [], 0⟩) (.cons (lsAt_map (f := enc_api_Entry) hx30) (.cons (lenM enc_api_Attr x30.Attrs) .nil))) ?_
      refine x_block ?_
      refine kw0 (⟨[(0, pL (some 1) enc_api_Entry l), (3, pI (IntKind.wrap .i64 (n + (List.length x28.Attrs : Int)))), (4, pI v25), (10, pI (List.length l : Int)), (11, pI v25), (29, pI (List.length x30.Attrs : Int)), (30, pI 0)], [], 0⟩) ?_
      refine x_loop (σ := Int) h (fun s => ⟨[(0, pL (some 1) enc_api_Entry l), (3, pI (IntKind.wrap .i64 (n + (List.length x28.Attrs : Int)))), (4, pI v25), (10, pI (List.length l : Int)), (11, pI v25), (29, pI (List.length x30.Attrs : Int)), (30, pI s)], [], 0⟩) (by kernel_rfl) ?_ ?_
      ·rintro v39
       kernel_rfl
      ·rintro v39 x40 h hx40
       replace h : law27_small_L40 l n v25 x28 x30 v39 = some x40 := h
       unfold law27_small_L40 at h
       refine x_rg (rgn [hE] (⟨[(0, pL (some 1) enc_api_Entry l), (3, pI (IntKind.wrap .i64 (n + (List.length x28.Attrs : Int)))), (4, pI v25), (10, pI (List.length l : Int)), (11, pI v25), (29, pI (List.length x30.Attrs : Int)), (30, pI v39), (31, pB (decide (v39 < (List.length x30.Attrs : Int))))], [], 0⟩)) ?_
       refine x_seq ?_
       refine x_cond _ rfl (fun hc41 => ?_) (fun hc41 => ?_)
       ·replace h := ite_t h hc41
        refine kw0 (⟨[(0, pL (some 1) enc_api_Entry l), (3, pI (IntKind.wrap .i64 (n + (List.length x28.Attrs : Int)))), (4, pI v25), (10, pI (List.length l : Int)), (11, pI v25), (29, pI (List.length x30.Attrs : Int)), (30, pI v39)], [], 0⟩) ?_
        refine x_skip ?_
        refine x_tn ?_
        refine x_seq ?_
        refine x_block ?_
        refine x_rg (rgn [hE, hE] (⟨[(0, pL (some 1) enc_api_Entry l), (3, pI (IntKind.wrap .i64 (n + (List.length x28.Attrs : Int)))), (4, pI v25), (5, pI v39), (10, pI (List.length l : Int)), (11, pI v25), (29, pI (List.length x30.Attrs : Int)), (30, pI v39)], [], 0⟩)) ?_
        obtain ⟨x42, hx42, h⟩ := bind_some h
        obtain ⟨x43, hx43, h⟩ := bind_some h
        obtain ⟨t47, ht, h⟩ := bind_some h
        refine x_rg (st2 := ⟨[(0, pL (some 1) enc_api_Entry l), (3, pI (IntKind.wrap .i64 (n + (List.length x28.Attrs : Int)))), (4, pI v25), (10, pI (List.length l : Int)), (11, pI v25), (29, pI (List.length x30.Attrs : Int)), (30, pI v39), (56, pB t47)], [], 0⟩) ?_ ?_
        ·rcases Bool.eq_false_or_eq_true (decide (1100 < (List.length x43.Name : Int))) with hg44 | hg44
         ·replace ht := ite_t ht hg44
          have e := Option.some.inj ht
          subst e
          exact rg0 [hE, hE, hN (.pAt (enc_api_Entry x42)), hE, hE, hE, hN (.pAt (enc_api_Attr x43)), hE, hE, hE, hE, hE, hS, hS, hS, hS, hS, hS, hS, hS, hS, hS, hS, hN (.pk true)] (⟨[(0, pL (some 1) enc_api_Entry l), (3, pI (IntKind.wrap .i64 (n + (List.length x28.Attrs : Int)))), (4, pI v25), (10, pI (List.length l : Int)), (11, pI v25), (29, pI (List.length x30.Attrs : Int)), (30, pI v39), (56, pB true)], [], 0⟩) (.cons (lsAt_map (f := enc_api_Entry) hx42) (.cons (lsAt_map (f := enc_api_Attr) hx43) (.cons hg44 (.cons hg44 (.cons hg44 (.cons hg44 (.cons hg44 (.cons hg44 (.cons hg44 (.cons hg44 (.cons hg44 (.cons hg44 (.cons hg44 (.cons hg44 .nil))))))))))))))
         ·replace ht := ite_f ht hg44
          obtain ⟨x45, hx45, ht⟩ := bind_some ht
          obtain ⟨x46, hx46, ht⟩ := bind_some ht
          have e := Option.some.inj ht
          subst e
          exact rg0 [hE, hE, hN (.pAt (enc_api_Entry x42)), hE, hE, hE, hN (.pAt (enc_api_Attr x43)), hE, hE, hE, hE, hE, hY, hY, (.y, (.pAt (enc_api_Entry x45))), hY, hY, hY, (.y, (.pAt (enc_api_Attr x46))), hY, hY, hY, hY, hN (.pk false)] (⟨[(0, pL (some 1) enc_api_Entry l), (3, pI (IntKind.wrap .i64 (n + (List.length x28.Attrs : Int)))), (4, pI v25), (10, pI (List.length l : Int)), (11, pI v25), (29, pI (List.length x30.Attrs : Int)), (30, pI v39), (56, pB (decide (1100 < (List.length x46.Value : Int))))], [], 0⟩) (.cons (lsAt_map (f := enc_api_Entry) hx42) (.cons (lsAt_map (f := enc_api_Attr) hx43) (.cons hg44 (.cons hg44 (.cons hg44 (.cons (lsAt_map (f := enc_api_Entry) hx45) (.cons hg44 (.cons hg44 (.cons hg44 (.cons hg44 (.cons (lsAt_map (f := enc_api_Attr) hx46) (.cons hg44 (.cons hg44 (.cons hg44 (.cons hg44 (.cons hg44 .nil))))))))))))))))
        ·clear ht
         refine x_cond _ rfl (fun hc48 => ?_) (fun hc48 => ?_)
         ·replace h := ite_t h hc48
          refine x_rg (rgn [hE] (⟨[(2, pB false)], [], 0⟩)) ?_
          refine x_toret ?_
          refine x_br ?_
          refine x_tr ?_
          refine x_tr ?_
          replace h := done_leaf h hx40
          refine x_br ?_
          refine x_br ?_
          refine x_tr ?_
          refine x_tr ?_
          replace h := done_leaf h hx26
          refine x_br ?_
          refine x_tr ?_
          obtain rfl := Option.some.inj h
          exact ret0 (.bool false) (.refl _) (fun _ => rfl)
         ·replace h := ite_f h hc48
          refine kw0 (⟨[(0, pL (some 1) enc_api_Entry l), (3, pI (IntKind.wrap .i64 (n + (List.length x28.Attrs : Int)))), (4, pI v25), (10, pI (List.length l : Int)), (11, pI v25), (29, pI (List.length x30.Attrs : Int)), (30, pI v39)], [], 0⟩) ?_
          refine x_skip ?_
          refine x_bn ?_
          refine x_tn ?_
          refine x_rgt (rgn [hE, hE] (⟨[(0, pL (some 1) enc_api_Entry l), (3, pI (IntKind.wrap .i64 (n + (List.length x28.Attrs : Int)))), (4, pI v25), (10, pI (List.length l : Int)), (11, pI v25), (29, pI (List.length x30.Attrs : Int)), (30, pI (IntKind.wrap .i64 (v39 + 1)))], [], 0⟩)) ?_
          refine x_tn ?_
          exact ⟨_, (Option.some.inj h).symm, by kernel_rfl⟩
       ·replace h := ite_f h hc41
        refine kw0 (⟨[(0, pL (some 1) enc_api_Entry l), (3, pI (IntKind.wrap .i64 (n + (List.length x28.Attrs : Int)))), (10, pI (List.length l : Int)), (11, pI v25)], [], 0⟩) ?_
        refine x_exit ?_
        refine x_te ?_
        refine x_te ?_
        replace h := done_leaf h hx40
        refine x_bh ?_
        refine x_bn ?_
        refine x_tn ?_
        refine x_rgt (rgn [hE, hE] (⟨[(0, pL (some 1) enc_api_Entry l), (3, pI (IntKind.wrap .i64 (n + (List.length x28.Attrs : Int)))), (10, pI (List.length l : Int)), (11, pI (IntKind.wrap .i64 (v25 + 1)))], [], 0⟩)) ?_
        refine x_tn ?_
        exact ⟨_, (Option.some.inj h).symm, by kernel_rfl⟩
    ·replace h := ite_f h hc27
     refine kw0 (⟨[], [], 0⟩) ?_
     refine x_exit ?_
     refine x_te ?_
     refine x_te ?_
     replace h := done_leaf h hx26
     refine x_bh ?_
     refine x_tn ?_
     refine x_rg (rgn [hE] (⟨[(2, pB true)], [], 0⟩)) ?_
     refine x_toret ?_
     obtain rfl := Option.some.inj h
     exact ret0 (.bool true) (.refl _) (fun _ => rfl)

theorem c105 {a0 : Str} {a1 : Str} {a2 : Str} {r : Str} (h : strings_ReplaceAll a0 a1 a2 = some r) : CallOK Tryd.prog 105 [.str a0, .str a1, .str a2] (.str r) true :=
  ok_replaceAll Tryd.func105 (by kernel_rfl) (by kernel_rfl) (g := 0) (by kernel_rfl) Tryd.strings_ReplaceAll h

theorem c82 {s_ : Str} {r : Str} (h : attr_quote s_ = some r) : CallOK Tryd.prog 82 [.str s_] (.str r) true := by
  apply ok82
  unfold attr_quote at h
  refine x_rg (rgn [hE] (⟨[(0, pS s_)], [], 0⟩)) ?_
  refine x_seq ?_
  obtain ⟨t3, ht, h⟩ := bind_some h
  refine x_rg (st2 := ⟨[(0, pS s_), (11, pB t3)], [], 0⟩) ?_ ?_
  ·rcases Bool.eq_false_or_eq_true (!decide (s_ = [])) with hg1 | hg1
   ·replace ht := ite_t ht hg1
    obtain ⟨x2, hx2, ht⟩ := bind_some ht
    have e := Option.some.inj ht
    subst e
    exact rg0 [hE, hE, hE, hY, (.y, (.cal [] (.int .i64 x2) true)), hY, hY, hY, hN (.pk true)] (⟨[(0, pS s_), (11, pB (decide (x2 = (List.length s_ : Int))))], [], 0⟩) (.cons hg1 (.cons hg1 (.cons (c104 hx2) (.cons hg1 (.cons hg1 (.cons hg1 (.cons hg1 .nil)))))))
   ·replace ht := ite_f ht hg1
    have e := Option.some.inj ht
    subst e
    exact rg0 [hE, hE, hE, hS, hS, hS, hS, hS, hN (.pk false)] (⟨[(0, pS s_), (11, pB false)], [], 0⟩) (.cons hg1 (.cons hg1 (.cons hg1 (.cons hg1 (.cons hg1 (.cons hg1 .nil))))))
  ·clear ht
   refine x_cond _ rfl (fun hc4 => ?_) (fun hc4 => ?_)
   ·replace h := ite_t h hc4
    refine x_rg (rgn [hE, hE] (⟨[(2, pS s_)], [], 0⟩)) ?_
    refine x_toret ?_
    refine x_tr ?_
    obtain rfl := Option.some.inj h
    exact ret0 (.str s_) (.refl _) (fun _ => rfl)
   ·replace h := ite_f h hc4
    refine kw0 (⟨[(0, pS s_)], [], 0⟩) ?_
    refine x_skip ?_
    refine x_tn ?_
    obtain ⟨x5, hx5, h⟩ := bind_some h
    obtain ⟨x6, hx6, h⟩ := bind_some h
    obtain ⟨x7, hx7, h⟩ := bind_some h
    refine x_rg (rg0 [hE, hN (.cal [] (.str x5) true), hN (.cat x6), hN (.cat x7), hE] (⟨[(2, pS x7)], [], 0⟩) (.cons (c105 hx5) (.cons hx6 (.cons hx7 .nil)))) ?_
    refine x_toret ?_
    obtain rfl := Option.some.inj h
    exact ret0 (.str x7) (.refl _) (fun _ => rfl)

theorem c83 {a0 : (List Str)} {a1 : Str} {r : Str} (h : strings_Join a0 a1 = some r) : CallOK Tryd.prog 83 [.sl none (List.map PV.str a0), .str a1] (.str r) true :=
  ok_join Tryd.func83 (by kernel_rfl) (by kernel_rfl) Tryd.strings_Join_none Tryd.strings_Join h

theorem c57 {l : (List api_Attr)} {r : (Str × Int)} (h : attr_Print l = some r) : CallOK Tryd.prog 57 [.sl (some 3) (List.map enc_api_Attr l)] (.tup [.str r.1, .int .i64 r.2]) true := by
  apply ok57
  unfold attr_Print at h
  refine x_rg (rgn [hE, hE] (⟨[(0, pL (some 3) enc_api_Attr l)], [], 0⟩)) ?_
  refine x_seq ?_
  obtain ⟨x1, hx1, h⟩ := bind_some h
  refine x_rg (rg0 [hE, hN (.cal [] (.int .i64 x1) true), hE] (⟨[(0, pL (some 3) enc_api_Attr l), (4, pI x1)], [], 0⟩) (.cons (c69 hx1) .nil)) ?_
  refine x_rg (rgn [hE, hE] (⟨[(0, pL (some 3) enc_api_Attr l), (4, pI x1), (11, pB (!decide (x1 = 0)))], [], 0⟩)) ?_
  refine x_cond _ rfl (fun hc2 => ?_) (fun hc2 => ?_)
  ·replace h := ite_t h hc2
   refine x_rg (rgn [hE, hE, hE] (⟨[(2, pS []), (3, pI x1)], [], 0⟩)) ?_
   refine x_toret ?_
   refine x_tr ?_
   obtain rfl := Option.some.inj h
   exact ret0 (.tup [.str [], .int .i64 x1]) (.tup (.cons (.refl _) (.cons (.refl _) .nil))) (fun _ => rfl)
  ·replace h := ite_f h hc2
   refine kw0 (⟨[(0, pL (some 3) enc_api_Attr l)], [], 0⟩) ?_
   refine x_skip ?_
   refine x_tn ?_
   obtain ⟨x3, hx3, h⟩ := bind_some h
   refine x_rg (rg0 (obs := [((List.length (List.map enc_api_Attr l) : Int) = (List.length l : Int)), (mkC 16 (.str []) 0 (List.length l : Int) = some (List.map PV.str x3))]) [hE, hN (.len (List.length l : Int)), hN (.mk (List.map PV.str x3)), hE] (⟨[(0, pL (some 3) enc_api_Attr l), (5, oL 0 PV.str x3)], [(0, rL none PV.str x3)], 1⟩) (.cons (by rw [List.length_map]) (.cons (mkC_map (f := PV.str) hx3) .nil))) ?_
   refine x_seq ?_
   refine x_rg (rg0 [hE, hN (.len (List.length l : Int)), hE] (⟨[(5, oL 0 PV.str x3), (16, pL (some 3) enc_api_Attr l), (17, pI (List.length l : Int)), (18, pI 0)], [(0, rL none PV.str x3)], 1⟩) (.cons (lenM enc_api_Attr l) .nil)) ?_
   refine x_block ?_
   refine kw0 (⟨[(5, oL 0 PV.str x3), (16, pL (some 3) enc_api_Attr l), (17, pI (List.length l : Int)), (18, pI 0)], [(0, rL none PV.str x3)], 1⟩) ?_
   refine x_loop (σ := (Int × (List Str))) h (fun s => ⟨[(5, oL 0 PV.str s.2), (16, pL (some 3) enc_api_Attr l), (17, pI (List.length l : Int)), (18, pI s.1)], [(0, rL none PV.str s.2)], 1⟩) (by kernel_rfl) ?_ ?_
   ·rintro ⟨v13, words⟩
    kernel_rfl
   ·rintro ⟨v13, words⟩ x15 h hx15
    replace h : attr_Print_L15 l v13 words = some x15 := h
    unfold attr_Print_L15 at h
    refine x_rg (rgn [hE] (⟨[(5, oL 0 PV.str words), (16, pL (some 3) enc_api_Attr l), (17, pI (List.length l : Int)), (18, pI v13), (19, pB (decide (v13 < (List.length l : Int))))], [(0, rL none PV.str words)], 1⟩)) ?_
    refine x_seq ?_
    refine x_cond _ rfl (fun hc16 => ?_) (fun hc16 => ?_)
    ·replace h := ite_t h hc16
     refine kw0 (⟨[(5, oL 0 PV.str words), (16, pL (some 3) enc_api_Attr l), (17, pI (List.length l : Int)), (18, pI v13)], [(0, rL none PV.str words)], 1⟩) ?_
     refine x_skip ?_
     refine x_tn ?_
     refine x_seq ?_
     refine x_block ?_
     obtain ⟨x17, hx17, h⟩ := bind_some h
     refine x_rg (rg0 [hN (.pAt (enc_api_Attr x17)), hE, hE, hE] (⟨[(5, oL 0 PV.str words), (7, .optr 1 0 0), (16, pL (some 3) enc_api_Attr l), (17, pI (List.length l : Int)), (18, pI v13)], [(0, rL none PV.str words), (1, some (.p (some 3) [enc_api_Attr x17]))], 2⟩) (.cons (lsAt_map (f := enc_api_Attr) hx17) .nil)) ?_
     refine x_rg (rgn [hE, hE] (⟨[(5, oL 0 PV.str words), (7, .optr 1 0 0), (16, pL (some 3) enc_api_Attr l), (17, pI (List.length l : Int)), (18, pI v13), (23, pB x17.Query)], [(0, rL none PV.str words), (1, some (.p (some 3) [enc_api_Attr x17]))], 2⟩)) ?_
     refine x_cond _ rfl (fun hc18 => ?_) (fun hc18 => ?_)
     ·replace h := ite_t h hc18
      obtain ⟨x19, hx19, h⟩ := bind_some h
      obtain ⟨x20, hx20, h⟩ := bind_some h
      refine x_rgt (rg0 (obs := [(catS x17.Name [63] = some x19), (List.take (List.map PV.str words).length (List.map PV.str words) ++ List.take 1 (List.drop 0 ([.str x19] : List PV)) = (List.map PV.str x20)), (List.length (List.map PV.str x20) * 16 ≤ 140737488355328), (List.length (List.map PV.str x20) ≤ 9223372036854775807), ((List.map PV.str words).length ≤ List.length (List.map PV.str words)), (0 + 1 ≤ List.length ([.str x19] : List PV))]) [hE, hE, hE, hN (.cat x19), hE, hN (.app (List.map PV.str x20)), hE] (⟨[(5, oL 0 PV.str x20), (16, pL (some 3) enc_api_Attr l), (17, pI (List.length l : Int)), (18, pI v13)], [(0, rL none PV.str x20)], 1⟩) (.cons hx19 (.cons (app_ob hx20 (.all _) (.rfl _)) (.cons (by rw [List.length_map]; exact (appL_ok hx20).2.1) (.cons (by rw [List.length_map]; exact (appL_ok hx20).2.2) (.cons (Nat.le_refl _) (.cons (by simp) .nil))))))) ?_
      refine x_bn ?_
      refine x_tn ?_
      refine x_rgt (rgn [hE, hE] (⟨[(5, oL 0 PV.str x20), (16, pL (some 3) enc_api_Attr l), (17, pI (List.length l : Int)), (18, pI (IntKind.wrap .i64 (v13 + 1)))], [(0, rL none PV.str x20)], 1⟩)) ?_
      refine x_tn ?_
      exact ⟨_, (Option.some.inj h).symm, by kernel_rfl⟩
     ·replace h := ite_f h hc18
      obtain ⟨x21, hx21, h⟩ := bind_some h
      obtain ⟨x22, hx22, h⟩ := bind_some h
      obtain ⟨x23, hx23, h⟩ := bind_some h
      obtain ⟨x24, hx24, h⟩ := bind_some h
      refine x_rgt (rg0 (obs := [(catS x17.Name [61] = some x21), (CallOK Tryd.prog 82 [.str x17.Value] (.str x22) true), (catS x21 x22 = some x23), (List.take (List.map PV.str words).length (List.map PV.str words) ++ List.take 1 (List.drop 0 ([.str x23] : List PV)) = (List.map PV.str x24)), (List.length (List.map PV.str x24) * 16 ≤ 140737488355328), (List.length (List.map PV.str x24) ≤ 9223372036854775807), ((List.map PV.str words).length ≤ List.length (List.map PV.str words)), (0 + 1 ≤ List.length ([.str x23] : List PV))]) [hE, hE, hE, hN (.cat x21), hE, hE, hN (.cal [] (.str x22) true), hN (.cat x23), hE, hN (.app (List.map PV.str x24)), hE] (⟨[(5, oL 0 PV.str x24), (16, pL (some 3) enc_api_Attr l), (17, pI (List.length l : Int)), (18, pI v13)], [(0, rL none PV.str x24)], 1⟩) (.cons hx21 (.cons (c82 hx22) (.cons hx23 (.cons (app_ob hx24 (.all _) (.rfl _)) (.cons (by rw [List.length_map]; exact (appL_ok hx24).2.1) (.cons (by rw [List.length_map]; exact (appL_ok hx24).2.2) (.cons (Nat.le_refl _) (.cons (by simp) .nil))))))))) ?_
      refine x_bn ?_
      refine x_tn ?_
      refine x_rgt (rgn [hE, hE] (⟨[(5, oL 0 PV.str x24), (16, pL (some 3) enc_api_Attr l), (17, pI (List.length l : Int)), (18, pI (IntKind.wrap .i64 (v13 + 1)))], [(0, rL none PV.str x24)], 1⟩)) ?_
      refine x_tn ?_
      exact ⟨_, (Option.some.inj h).symm, by kernel_rfl⟩
    ·replace h := ite_f h hc16
     refine kw0 (⟨[(5, oL 0 PV.str words)], [(0, rL none PV.str words)], 1⟩) ?_
     refine x_exit ?_
     refine x_te ?_
     refine x_te ?_
     replace h := done_map h hx15
     unfold attr_Print_A26 at h
     refine x_bh ?_
     refine x_tn ?_
     obtain ⟨x25, hx25, h⟩ := bind_some h
     refine x_rg (rg0 (obs := [(LesA [.sl none (List.take (List.map PV.str words).length (List.drop 0 (List.map PV.str words))), .str [32]] [.sl none (List.map PV.str words), .str [32]]), (CallOK Tryd.prog 83 [.sl none (List.map PV.str words), .str [32]] (.str x25) true), (0 + (List.map PV.str words).length ≤ List.length (List.map PV.str words))]) [hE, hN (.call [] [.sl none (List.map PV.str words), .str [32]] (.str x25) true), hE, hE] (⟨[(2, pS x25), (3, pI 0)], [], 0⟩) (.cons (.cons (.of_eq (by rw [List.drop_zero, List.take_length])) (.cons (.refl _) .nil)) (.cons (c83 hx25) (.cons (by simp) .nil)))) ?_
     refine x_toret ?_
     obtain rfl := Option.some.inj h
     exact ret0 (.tup [.str x25, .int .i64 0]) (.tup (.cons (.refl _) (.cons (.refl _) .nil))) (fun _ => rfl)

theorem c28 {l : (List api_Entry)} {r : (Str × Int)} (h : dial_Text l = some r) : CallOK Tryd.prog 28 [.sl (some 1) (List.map enc_api_Entry l)] (.tup [.str r.1, .int .i64 r.2]) true := by
  apply ok28
  unfold dial_Text at h
  refine x_rg (rgn [hE, hE] (⟨[(0, pL (some 1) enc_api_Entry l)], [], 0⟩)) ?_
  refine x_seq ?_
  refine x_rg (rg0 [hE, hN (.len (List.length l : Int)), hE] (⟨[(0, pL (some 1) enc_api_Entry l), (11, pB (decide (256 < (List.length l : Int))))], [], 0⟩) (.cons (lenM enc_api_Entry l) .nil)) ?_
  refine x_cond _ rfl (fun hc1 => ?_) (fun hc1 => ?_)
  ·replace h := ite_t h hc1
   refine x_rg (rgn [hE, hE] (⟨[(2, pS []), (3, pI 22)], [], 0⟩)) ?_
   refine x_toret ?_
   refine x_tr ?_
   obtain rfl := Option.some.inj h
   exact ret0 (.tup [.str [], .int .i64 22]) (.tup (.cons (.refl _) (.cons (.refl _) .nil))) (fun _ => rfl)
  ·replace h := ite_f h hc1
   refine kw0 (⟨[(0, pL (some 1) enc_api_Entry l)], [], 0⟩) ?_
   refine x_skip ?_
   refine x_tn ?_
   refine x_rg (rg0 (obs := [(∀ (k : Nat) (T' e' : TypeId) (bs' : List UInt8), lookR [] k ≠ some (.b T' e' bs'))]) [hN .bld] (⟨[(0, pL (some 1) enc_api_Entry l), (4, .optr 0 0 0)], [(0, some (.b 76 5 ([] : Str)))], 1⟩) (.cons (noB (by kernel_rfl)) .nil)) ?_
   refine x_seq ?_
   refine x_rg (rg0 [hE, hN (.len (List.length l : Int)), hE] (⟨[(4, .optr 0 0 0), (12, pL (some 1) enc_api_Entry l), (13, pI (List.length l : Int)), (14, pI 0)], [(0, some (.b 76 5 ([] : Str)))], 1⟩) (.cons (lenM enc_api_Entry l) .nil)) ?_
   refine x_block ?_
   refine kw0 (⟨[(4, .optr 0 0 0), (12, pL (some 1) enc_api_Entry l), (13, pI (List.length l : Int)), (14, pI 0)], [(0, some (.b 76 5 ([] : Str)))], 1⟩) ?_
   refine x_loop (σ := (Int × Str)) h (fun s => ⟨[(4, .optr 0 0 0), (12, pL (some 1) enc_api_Entry l), (13, pI (List.length l : Int)), (14, pI s.1)], [(0, some (.b 76 5 s.2))], 1⟩) (by kernel_rfl) ?_ ?_
   ·rintro ⟨v12, v13⟩
    kernel_rfl
   ·rintro ⟨v12, v13⟩ x14 h hx14
    replace h : dial_Text_L14 l v12 v13 = some x14 := h
    unfold dial_Text_L14 at h
    refine x_rg (rgn [hE] (⟨[(4, .optr 0 0 0), (12, pL (some 1) enc_api_Entry l), (13, pI (List.length l : Int)), (14, pI v12), (15, pB (decide (v12 < (List.length l : Int))))], [(0, some (.b 76 5 v13))], 1⟩)) ?_
    refine x_seq ?_
    refine x_cond _ rfl (fun hc15 => ?_) (fun hc15 => ?_)
    ·replace h := ite_t h hc15
     refine kw0 (⟨[(4, .optr 0 0 0), (12, pL (some 1) enc_api_Entry l), (13, pI (List.length l : Int)), (14, pI v12)], [(0, some (.b 76 5 v13))], 1⟩) ?_
     refine x_skip ?_
     refine x_tn ?_
     refine x_seq ?_
     refine x_block ?_
     obtain ⟨x16, hx16, h⟩ := bind_some h
     refine x_rg (rg0 [hN (.pAt (enc_api_Entry x16)), hE, hE, hE] (⟨[(4, .optr 0 0 0), (6, .optr 1 0 0), (12, pL (some 1) enc_api_Entry l), (13, pI (List.length l : Int)), (14, pI v12)], [(0, some (.b 76 5 v13)), (1, some (.p (some 1) [enc_api_Entry x16]))], 2⟩) (.cons (lsAt_map (f := enc_api_Entry) hx16) .nil)) ?_
     refine x_seq ?_
     obtain ⟨t19, ht, h⟩ := bind_some h
     refine x_rg (st2 := ⟨[(4, .optr 0 0 0), (6, .optr 1 0 0), (12, pL (some 1) enc_api_Entry l), (13, pI (List.length l : Int)), (14, pI v12), (26, pB t19)], [(0, some (.b 76 5 v13)), (1, some (.p (some 1) [enc_api_Entry x16]))], 2⟩) ?_ ?_
     ·rcases Bool.eq_false_or_eq_true (decide ((List.length x16.Attrs : Int) = 0)) with hg17 | hg17
      ·replace ht := ite_t ht hg17
       have e := Option.some.inj ht
       subst e
       exact rg0 [hE, hE, hN (.len (List.length x16.Attrs : Int)), hE, hE, hS, hS, hS, hN (.pk true)] (⟨[(4, .optr 0 0 0), (6, .optr 1 0 0), (12, pL (some 1) enc_api_Entry l), (13, pI (List.length l : Int)), (14, pI v12), (26, pB true)], [(0, some (.b 76 5 v13)), (1, some (.p (some 1) [enc_api_Entry x16]))], 2⟩) (.cons (lenM enc_api_Attr x16.Attrs) (.cons hg17 (.cons hg17 (.cons hg17 (.cons hg17 .nil)))))
      ·replace ht := ite_f ht hg17
       obtain ⟨x18, hx18, ht⟩ := bind_some ht
       have e := Option.some.inj ht
       subst e
       exact rg0 [hE, hE, hN (.len (List.length x16.Attrs : Int)), hE, hE, hY, hY, (.y, (.cal [] (.bool x18) true)), hN (.pk false)] (⟨[(4, .optr 0 0 0), (6, .optr 1 0 0), (12, pL (some 1) enc_api_Entry l), (13, pI (List.length l : Int)), (14, pI v12), (26, pB x18)], [(0, some (.b 76 5 v13)), (1, some (.p (some 1) [enc_api_Entry x16]))], 2⟩) (.cons (lenM enc_api_Attr x16.Attrs) (.cons hg17 (.cons hg17 (.cons hg17 (.cons (c56 hx18) (.cons hg17 .nil))))))
     ·clear ht
      refine x_cond _ rfl (fun hc20 => ?_) (fun hc20 => ?_)
      ·replace h := ite_t h hc20
       refine x_rg (rgn [hE, hE] (⟨[(2, pS []), (3, pI 2)], [], 0⟩)) ?_
       refine x_toret ?_
       refine x_tr ?_
       refine x_br ?_
       refine x_tr ?_
       refine x_tr ?_
       replace h := done_leaf h hx14
       refine x_br ?_
       refine x_tr ?_
       obtain rfl := Option.some.inj h
       exact ret0 (.tup [.str [], .int .i64 2]) (.tup (.cons (.refl _) (.cons (.refl _) .nil))) (fun _ => rfl)
      ·replace h := ite_f h hc20
       refine kw0 (⟨[(4, .optr 0 0 0), (6, .optr 1 0 0), (12, pL (some 1) enc_api_Entry l), (13, pI (List.length l : Int)), (14, pI v12)], [(0, some (.b 76 5 v13)), (1, some (.p (some 1) [enc_api_Entry x16]))], 2⟩) ?_
       refine x_skip ?_
       refine x_tn ?_
       obtain ⟨x21, hx21, h⟩ := bind_some h
       refine x_rg (rg0 [hE, hE, hN (.cal [] (.tup [.str x21.1, .int .i64 x21.2]) true), hE, hE, hE, hE, hE] (⟨[(4, .optr 0 0 0), (7, pS x21.1), (8, pI x21.2), (12, pL (some 1) enc_api_Entry l), (13, pI (List.length l : Int)), (14, pI v12)], [(0, some (.b 76 5 v13))], 1⟩) (.cons (c57 hx21) .nil)) ?_
       refine x_seq ?_
       refine x_rg (rgn [hE, hE] (⟨[(4, .optr 0 0 0), (7, pS x21.1), (8, pI x21.2), (12, pL (some 1) enc_api_Entry l), (13, pI (List.length l : Int)), (14, pI v12), (34, pB (!decide (x21.2 = 0)))], [(0, some (.b 76 5 v13))], 1⟩)) ?_
       refine x_cond _ rfl (fun hc22 => ?_) (fun hc22 => ?_)
       ·replace h := ite_t h hc22
        refine x_rg (rgn [hE, hE, hE] (⟨[(2, pS []), (3, pI x21.2)], [], 0⟩)) ?_
        refine x_toret ?_
        refine x_tr ?_
        refine x_br ?_
        refine x_tr ?_
        refine x_tr ?_
        replace h := done_leaf h hx14
        refine x_br ?_
        refine x_tr ?_
        obtain rfl := Option.some.inj h
        exact ret0 (.tup [.str [], .int .i64 x21.2]) (.tup (.cons (.refl _) (.cons (.refl _) .nil))) (fun _ => rfl)
       ·replace h := ite_f h hc22
        refine kw0 (⟨[(4, .optr 0 0 0), (7, pS x21.1), (12, pL (some 1) enc_api_Entry l), (13, pI (List.length l : Int)), (14, pI v12)], [(0, some (.b 76 5 v13))], 1⟩) ?_
        refine x_skip ?_
        refine x_tn ?_
        obtain ⟨x23, hx23, h⟩ := bind_some h
        obtain ⟨x24, hx24, h⟩ := bind_some h
        refine x_rgt (rg0 [hE, hN (.cat x23), hN (.bcall (.tup [.int .i64 (List.length x23 : Int), .niliface]) x24)] (⟨[(4, .optr 0 0 0), (12, pL (some 1) enc_api_Entry l), (13, pI (List.length l : Int)), (14, pI v12)], [(0, some (.b 76 5 x24))], 1⟩) (.cons hx23 (.cons (b58 hx24) .nil))) ?_
        refine x_bn ?_
        refine x_tn ?_
        refine x_rgt (rgn [hE, hE] (⟨[(4, .optr 0 0 0), (12, pL (some 1) enc_api_Entry l), (13, pI (List.length l : Int)), (14, pI (IntKind.wrap .i64 (v12 + 1)))], [(0, some (.b 76 5 x24))], 1⟩)) ?_
        refine x_tn ?_
        exact ⟨_, (Option.some.inj h).symm, by kernel_rfl⟩
    ·replace h := ite_f h hc15
     refine kw0 (⟨[(4, .optr 0 0 0)], [(0, some (.b 76 5 v13))], 1⟩) ?_
     refine x_exit ?_
     refine x_te ?_
     refine x_te ?_
     replace h := done_leaf h hx14
     refine x_bh ?_
     refine x_tn ?_
     refine x_rg (rg0 (obs := [(BuilderOK Tryd.prog 59 76 5 v13 [] (.str v13) v13)]) [hN (.bcall (.str v13) v13), hE, hE] (⟨[(2, pS v13), (3, pI 0)], [], 0⟩) (.cons (b59 _) .nil)) ?_
     refine x_toret ?_
     obtain rfl := Option.some.inj h
     exact ret0 (.tup [.str v13, .int .i64 0]) (.tup (.cons (.refl _) (.cons (.refl _) .nil))) (fun _ => rfl)

theorem c85 {s_ : Str} {r : Str} (h : ref22_Quote s_ = some r) : CallOK Tryd.prog 85 [.str s_] (.str r) true := by
  apply ok85
  unfold ref22_Quote at h
  refine x_rg (rgn [hE] (⟨[(0, pS s_)], [], 0⟩)) ?_
  refine x_rg (rgn [hE, hE, hE, hE] (⟨[(0, pS s_), (3, pS []), (4, pB (decide (s_ = [])))], [], 0⟩)) ?_
  refine x_seq ?_
  refine x_rg (rgn [hE] (⟨[(0, pS s_), (3, pS []), (4, pB (decide (s_ = []))), (5, pI 0)], [], 0⟩)) ?_
  refine x_block ?_
  refine kw0 (⟨[(0, pS s_), (3, pS []), (4, pB (decide (s_ = []))), (5, pI 0)], [], 0⟩) ?_
  refine x_loop (σ := (Str × Bool × Int)) h (fun s => ⟨[(0, pS s_), (3, pS s.1), (4, pB s.2.1), (5, pI s.2.2)], [], 0⟩) (by kernel_rfl) ?_ ?_
  ·rintro ⟨out, odd, i⟩
   kernel_rfl
  ·rintro ⟨out, odd, i⟩ x17 h hx17
   replace h : ref22_Quote_L17 s_ out odd i = some x17 := h
   unfold ref22_Quote_L17 at h
   refine x_seq ?_
   refine x_rg (rgn [hE, hE, hE, hE] (⟨[(0, pS s_), (3, pS out), (4, pB odd), (5, pI i), (11, pB (decide (i < (List.length s_ : Int))))], [], 0⟩)) ?_
   refine x_cond _ rfl (fun hc18 => ?_) (fun hc18 => ?_)
   ·replace h := ite_t h hc18
    refine kw0 (⟨[(0, pS s_), (3, pS out), (4, pB odd), (5, pI i)], [], 0⟩) ?_
    refine x_skip ?_
    refine x_tn ?_
    refine x_seq ?_
    refine x_block ?_
    obtain ⟨t25, ht, h⟩ := bind_some h
    refine x_rg (st2 := ⟨[(0, pS s_), (3, pS out), (4, pB t25), (5, pI i)], [], 0⟩) ?_ ?_
    ·rcases Bool.eq_false_or_eq_true odd with hg19 | hg19
     ·replace ht := ite_t ht hg19
      have e := Option.some.inj ht
      subst e
      exact rg0 [hE, hE, hS, hS, hS, hS, hN (.pk true), hE, hS, hS, hS, hS, hE, hE, hS, hS, hS, hS, hE, hE] (⟨[(0, pS s_), (3, pS out), (4, pB true), (5, pI i)], [], 0⟩) (.cons hg19 (.cons hg19 (.cons hg19 (.cons hg19 (.cons hg19 (.cons tt (.cons tt (.cons tt (.cons tt (.cons tt (.cons tt (.cons tt (.cons tt .nil)))))))))))))
     ·replace ht := ite_f ht hg19
      obtain ⟨c20, hc20, ht⟩ := bind_some ht
      rcases Bool.eq_false_or_eq_true (decide ((c20.toNat : Int) = 32)) with hg21 | hg21
      ·replace ht := ite_t ht hg21
       have e := Option.some.inj ht
       subst e
       exact rg0 [hE, hE, hY, hY, (.y, (.sAt c20)), hY, hN (.pk false), hE, hS, hS, hS, hS, hN (.pk true), hE, hS, hS, hS, hS, hE, hE] (⟨[(0, pS s_), (3, pS out), (4, pB true), (5, pI i)], [], 0⟩) (.cons hg19 (.cons hg19 (.cons hg19 (.cons hc20 (.cons hg19 (.cons hg19 (.cons hg21 (.cons hg21 (.cons hg21 (.cons hg21 (.cons hg21 (.cons tt (.cons tt (.cons tt (.cons tt .nil)))))))))))))))
      ·replace ht := ite_f ht hg21
       obtain ⟨c22, hc22, ht⟩ := bind_some ht
       rcases Bool.eq_false_or_eq_true (decide ((c22.toNat : Int) = 9)) with hg23 | hg23
       ·replace ht := ite_t ht hg23
        have e := Option.some.inj ht
        subst e
        exact rg0 [hE, hE, hY, hY, (.y, (.sAt c20)), hY, hN (.pk false), hE, hY, hY, (.y, (.sAt c22)), hY, hN (.pk false), hE, hS, hS, hS, hS, hN (.pk true), hE] (⟨[(0, pS s_), (3, pS out), (4, pB true), (5, pI i)], [], 0⟩) (.cons hg19 (.cons hg19 (.cons hg19 (.cons hc20 (.cons hg19 (.cons hg19 (.cons hg21 (.cons hg21 (.cons hg21 (.cons hc22 (.cons hg21 (.cons hg21 (.cons hg23 (.cons hg23 (.cons hg23 (.cons hg23 (.cons hg23 .nil)))))))))))))))))
       ·replace ht := ite_f ht hg23
        obtain ⟨c24, hc24, ht⟩ := bind_some ht
        have e := Option.some.inj ht
        subst e
        exact rg0 [hE, hE, hY, hY, (.y, (.sAt c20)), hY, hN (.pk false), hE, hY, hY, (.y, (.sAt c22)), hY, hN (.pk false), hE, hY, hY, (.y, (.sAt c24)), hY, hN (.pk false), hE] (⟨[(0, pS s_), (3, pS out), (4, pB (decide ((c24.toNat : Int) = 39))), (5, pI i)], [], 0⟩) (.cons hg19 (.cons hg19 (.cons hg19 (.cons hc20 (.cons hg19 (.cons hg19 (.cons hg21 (.cons hg21 (.cons hg21 (.cons hc22 (.cons hg21 (.cons hg21 (.cons hg23 (.cons hg23 (.cons hg23 (.cons hc24 (.cons hg23 (.cons hg23 .nil))))))))))))))))))
    ·clear ht
     obtain ⟨x26, hx26, h⟩ := bind_some h
     obtain ⟨x27, hx27, h⟩ := bind_some h
     refine x_rg (rg0 [hE, hE, hE, hE, hE, hN (.cutS x26), hN (.cat x27), hE] (⟨[(0, pS s_), (3, pS x27), (4, pB t25), (5, pI i)], [], 0⟩) (.cons hx26 (.cons hx27 .nil))) ?_
     obtain ⟨c28, hc28, h⟩ := bind_some h
     refine x_rg (rg0 [hE, hE, hN (.sAt c28), hE] (⟨[(0, pS s_), (3, pS x27), (4, pB t25), (5, pI i), (43, pB (decide ((c28.toNat : Int) = 39)))], [], 0⟩) (.cons hc28 .nil)) ?_
     refine x_cond _ rfl (fun hc29 => ?_) (fun hc29 => ?_)
     ·replace h := ite_t h hc29
      obtain ⟨x30, hx30, h⟩ := bind_some h
      refine x_rgt (rg0 [hE, hN (.cat x30), hE] (⟨[(0, pS s_), (3, pS x30), (4, pB t25), (5, pI i)], [], 0⟩) (.cons hx30 .nil)) ?_
      refine x_bn ?_
      refine x_tn ?_
      refine x_rgt (rgn [hE, hE, hE] (⟨[(0, pS s_), (3, pS x30), (4, pB t25), (5, pI (IntKind.wrap .i64 (i + 1)))], [], 0⟩)) ?_
      refine x_tn ?_
      exact ⟨_, (Option.some.inj h).symm, by kernel_rfl⟩
     ·replace h := ite_f h hc29
      refine kw0 (⟨[(0, pS s_), (3, pS x27), (4, pB t25), (5, pI i)], [], 0⟩) ?_
      refine x_skip ?_
      refine x_bn ?_
      refine x_tn ?_
      refine x_rgt (rgn [hE, hE, hE] (⟨[(0, pS s_), (3, pS x27), (4, pB t25), (5, pI (IntKind.wrap .i64 (i + 1)))], [], 0⟩)) ?_
      refine x_tn ?_
      exact ⟨_, (Option.some.inj h).symm, by kernel_rfl⟩
   ·replace h := ite_f h hc18
    refine kw0 (⟨[(0, pS s_), (3, pS out), (4, pB odd)], [], 0⟩) ?_
    refine x_exit ?_
    refine x_te ?_
    refine x_te ?_
    replace h := done_map h hx17
    unfold ref22_Quote_A34 at h
    refine x_bh ?_
    refine x_tn ?_
    refine x_seq ?_
    refine x_rg (rgn [hE] (⟨[(0, pS s_), (3, pS out), (46, pB odd)], [], 0⟩)) ?_
    refine x_cond _ rfl (fun hc31 => ?_) (fun hc31 => ?_)
    ·replace h := ite_t h hc31
     obtain ⟨x32, hx32, h⟩ := bind_some h
     obtain ⟨x33, hx33, h⟩ := bind_some h
     refine x_rg (rg0 [hE, hN (.cat x32), hN (.cat x33), hE] (⟨[(2, pS x33)], [], 0⟩) (.cons hx32 (.cons hx33 .nil))) ?_
     refine x_toret ?_
     refine x_tr ?_
     obtain rfl := Option.some.inj h
     exact ret0 (.str x33) (.refl _) (fun _ => rfl)
    ·replace h := ite_f h hc31
     refine kw0 (⟨[(0, pS s_)], [], 0⟩) ?_
     refine x_skip ?_
     refine x_tn ?_
     refine x_rg (rgn [hE, hE] (⟨[(2, pS s_)], [], 0⟩)) ?_
     refine x_toret ?_
     obtain rfl := Option.some.inj h
     exact ret0 (.str s_) (.refl _) (fun _ => rfl)

theorem c60 {l : (List api_Attr)} {r : (Str × Int)} (h : ref22_Print l = some r) : CallOK Tryd.prog 60 [.sl (some 3) (List.map enc_api_Attr l)] (.tup [.str r.1, .int .i64 r.2]) true := by
  apply ok60
  unfold ref22_Print at h
  refine x_rg (rgn [hE, hE] (⟨[(0, pL (some 3) enc_api_Attr l)], [], 0⟩)) ?_
  refine x_seq ?_
  obtain ⟨x1, hx1, h⟩ := bind_some h
  refine x_rg (rg0 [hE, hN (.cal [] (.int .i64 x1) true), hE] (⟨[(0, pL (some 3) enc_api_Attr l), (4, pI x1)], [], 0⟩) (.cons (c30 hx1) .nil)) ?_
  refine x_rg (rgn [hE, hE] (⟨[(0, pL (some 3) enc_api_Attr l), (4, pI x1), (10, pB (!decide (x1 = 0)))], [], 0⟩)) ?_
  refine x_cond _ rfl (fun hc2 => ?_) (fun hc2 => ?_)
  ·replace h := ite_t h hc2
   refine x_rg (rgn [hE, hE, hE] (⟨[(2, pS []), (3, pI x1)], [], 0⟩)) ?_
   refine x_toret ?_
   refine x_tr ?_
   obtain rfl := Option.some.inj h
   exact ret0 (.tup [.str [], .int .i64 x1]) (.tup (.cons (.refl _) (.cons (.refl _) .nil))) (fun _ => rfl)
  ·replace h := ite_f h hc2
   refine kw0 (⟨[(0, pL (some 3) enc_api_Attr l)], [], 0⟩) ?_
   refine x_skip ?_
   refine x_tn ?_
   refine x_rg (rgn [hE] (⟨[(0, pL (some 3) enc_api_Attr l), (5, pS [])], [], 0⟩)) ?_
   refine x_seq ?_
   refine x_rg (rgn [hE] (⟨[(0, pL (some 3) enc_api_Attr l), (5, pS []), (6, pI 0)], [], 0⟩)) ?_
   refine x_block ?_
   refine kw0 (⟨[(0, pL (some 3) enc_api_Attr l), (5, pS []), (6, pI 0)], [], 0⟩) ?_
   refine x_loop (σ := (Str × Int)) h (fun s => ⟨[(0, pL (some 3) enc_api_Attr l), (5, pS s.1), (6, pI s.2)], [], 0⟩) (by kernel_rfl) ?_ ?_
   ·rintro ⟨s_, i⟩
    kernel_rfl
   ·rintro ⟨s_, i⟩ x17 h hx17
    replace h : ref22_Print_L17 l s_ i = some x17 := h
    unfold ref22_Print_L17 at h
    refine x_seq ?_
    refine x_rg (rg0 [hE, hE, hN (.len (List.length l : Int)), hE] (⟨[(0, pL (some 3) enc_api_Attr l), (5, pS s_), (6, pI i), (15, pB (decide (i < (List.length l : Int))))], [], 0⟩) (.cons (lenM enc_api_Attr l) .nil)) ?_
    refine x_cond _ rfl (fun hc18 => ?_) (fun hc18 => ?_)
    ·replace h := ite_t h hc18
     refine kw0 (⟨[(0, pL (some 3) enc_api_Attr l), (5, pS s_), (6, pI i)], [], 0⟩) ?_
     refine x_skip ?_
     refine x_tn ?_
     refine x_seq ?_
     refine x_block ?_
     refine x_join (τ := Str) (fun t => ref22_Print_K19 l i t = some x17) (fun t => { tm := [(0, .pv (.sl (some 3) (List.map enc_api_Attr l))), (5, .pv (.str t)), (6, .pv (.int .i64 i))], hp := [], nx := 0 }) ?_ ?_
     ·rintro p20 h
      replace h : ref22_Print_K19 l i p20 = some x17 := h
      unfold ref22_Print_K19 at h
      obtain ⟨x21, hx21, h⟩ := bind_some h
      refine x_rg (rg0 [hE, hE, hN (.pAt (enc_api_Attr x21)), hE, hE] (⟨[(0, pL (some 3) enc_api_Attr l), (5, pS p20), (6, pI i), (26, pB x21.Query)], [], 0⟩) (.cons (lsAt_map (f := enc_api_Attr) hx21) .nil)) ?_
      refine x_cond _ rfl (fun hc22 => ?_) (fun hc22 => ?_)
      ·replace h := ite_t h hc22
       obtain ⟨x23, hx23, h⟩ := bind_some h
       obtain ⟨x24, hx24, h⟩ := bind_some h
       obtain ⟨x25, hx25, h⟩ := bind_some h
       refine x_rgt (rg0 [hE, hE, hE, hN (.pAt (enc_api_Attr x23)), hE, hE, hN (.cat x24), hN (.cat x25), hE] (⟨[(0, pL (some 3) enc_api_Attr l), (5, pS x25), (6, pI i)], [], 0⟩) (.cons (lsAt_map (f := enc_api_Attr) hx23) (.cons hx24 (.cons hx25 .nil)))) ?_
       refine x_bn ?_
       refine x_tn ?_
       refine x_rgt (rgn [hE, hE, hE] (⟨[(0, pL (some 3) enc_api_Attr l), (5, pS x25), (6, pI (IntKind.wrap .i64 (i + 1)))], [], 0⟩)) ?_
       refine x_tn ?_
       exact ⟨_, (Option.some.inj h).symm, by kernel_rfl⟩
      ·replace h := ite_f h hc22
       obtain ⟨x26, hx26, h⟩ := bind_some h
       obtain ⟨x27, hx27, h⟩ := bind_some h
       obtain ⟨x28, hx28, h⟩ := bind_some h
       obtain ⟨x29, hx29, h⟩ := bind_some h
       obtain ⟨x30, hx30, h⟩ := bind_some h
       obtain ⟨x31, hx31, h⟩ := bind_some h
       refine x_rgt (rg0 [hE, hE, hE, hN (.pAt (enc_api_Attr x26)), hE, hE, hN (.cat x27), hN (.cat x28), hE, hE, hN (.pAt (enc_api_Attr x29)), hE, hE, hN (.cal [] (.str x30) true), hN (.cat x31), hE] (⟨[(0, pL (some 3) enc_api_Attr l), (5, pS x31), (6, pI i)], [], 0⟩) (.cons (lsAt_map (f := enc_api_Attr) hx26) (.cons hx27 (.cons hx28 (.cons (lsAt_map (f := enc_api_Attr) hx29) (.cons (c85 hx30) (.cons hx31 .nil))))))) ?_
       refine x_bn ?_
       refine x_tn ?_
       refine x_rgt (rgn [hE, hE, hE] (⟨[(0, pL (some 3) enc_api_Attr l), (5, pS x31), (6, pI (IntKind.wrap .i64 (i + 1)))], [], 0⟩)) ?_
       refine x_tn ?_
       exact ⟨_, (Option.some.inj h).symm, by kernel_rfl⟩
     ·refine x_rg (rgn [hE, hE] (⟨[(0, pL (some 3) enc_api_Attr l), (5, pS s_), (6, pI i), (19, pB (decide (0 < i)))], [], 0⟩)) ?_
      refine x_cond _ rfl (fun hc32 => ?_) (fun hc32 => ?_)
      ·replace h := ite_t h hc32
       obtain ⟨x33, hx33, h⟩ := bind_some h
       refine x_rgt (rg0 [hE, hN (.cat x33), hE] (⟨[(0, pL (some 3) enc_api_Attr l), (5, pS x33), (6, pI i)], [], 0⟩) (.cons hx33 .nil)) ?_
       refine x_tn ?_
       exact ⟨x33, h, by kernel_rfl⟩
      ·replace h := ite_f h hc32
       refine kw0 (⟨[(0, pL (some 3) enc_api_Attr l), (5, pS s_), (6, pI i)], [], 0⟩) ?_
       refine x_skip ?_
       refine x_tn ?_
       exact ⟨s_, h, by kernel_rfl⟩
    ·replace h := ite_f h hc18
     refine kw0 (⟨[(5, pS s_)], [], 0⟩) ?_
     refine x_exit ?_
     refine x_te ?_
     refine x_te ?_
     replace h := done_leaf h hx17
     refine x_bh ?_
     refine x_tn ?_
     refine x_rg (rgn [hE, hE, hE] (⟨[(2, pS s_), (3, pI 0)], [], 0⟩)) ?_
     refine x_toret ?_
     obtain rfl := Option.some.inj h
     exact ret0 (.tup [.str s_, .int .i64 0]) (.tup (.cons (.refl _) (.cons (.refl _) .nil))) (fun _ => rfl)

theorem c29 {l : (List api_Entry)} {r : (Str × Int)} (h : ref27_Text l = some r) : CallOK Tryd.prog 29 [.sl (some 1) (List.map enc_api_Entry l)] (.tup [.str r.1, .int .i64 r.2]) true := by
  apply ok29
  unfold ref27_Text at h
  refine x_rg (rgn [hE, hE] (⟨[(0, pL (some 1) enc_api_Entry l)], [], 0⟩)) ?_
  refine x_seq ?_
  refine x_rg (rg0 [hE, hN (.len (List.length l : Int)), hE] (⟨[(0, pL (some 1) enc_api_Entry l), (10, pB (decide (256 < (List.length l : Int))))], [], 0⟩) (.cons (lenM enc_api_Entry l) .nil)) ?_
  refine x_cond _ rfl (fun hc1 => ?_) (fun hc1 => ?_)
  ·replace h := ite_t h hc1
   refine x_rg (rgn [hE, hE] (⟨[(2, pS []), (3, pI 22)], [], 0⟩)) ?_
   refine x_toret ?_
   refine x_tr ?_
   obtain rfl := Option.some.inj h
   exact ret0 (.tup [.str [], .int .i64 22]) (.tup (.cons (.refl _) (.cons (.refl _) .nil))) (fun _ => rfl)
  ·replace h := ite_f h hc1
   refine kw0 (⟨[(0, pL (some 1) enc_api_Entry l)], [], 0⟩) ?_
   refine x_skip ?_
   refine x_tn ?_
   refine x_rg (rgn [hE] (⟨[(0, pL (some 1) enc_api_Entry l), (4, pS [])], [], 0⟩)) ?_
   refine x_seq ?_
   refine x_rg (rgn [hE] (⟨[(0, pL (some 1) enc_api_Entry l), (4, pS []), (5, pI 0)], [], 0⟩)) ?_
   refine x_block ?_
   refine kw0 (⟨[(0, pL (some 1) enc_api_Entry l), (4, pS []), (5, pI 0)], [], 0⟩) ?_
   refine x_loop (σ := (Str × Int)) h (fun s => ⟨[(0, pL (some 1) enc_api_Entry l), (4, pS s.1), (5, pI s.2)], [], 0⟩) (by kernel_rfl) ?_ ?_
   ·rintro ⟨s_, i⟩
    kernel_rfl
   ·rintro ⟨s_, i⟩ x16 h hx16
    replace h : ref27_Text_L16 l s_ i = some x16 := h
    unfold ref27_Text_L16 at h
    refine x_seq ?_
    refine x_rg (rg0 [hE, hE, hN (.len (List.length l : Int)), hE] (⟨[(0, pL (some 1) enc_api_Entry l), (4, pS s_), (5, pI i), (14, pB (decide (i < (List.length l : Int))))], [], 0⟩) (.cons (lenM enc_api_Entry l) .nil)) ?_
    refine x_cond _ rfl (fun hc17 => ?_) (fun hc17 => ?_)
    ·replace h := ite_t h hc17
     refine kw0 (⟨[(0, pL (some 1) enc_api_Entry l), (4, pS s_), (5, pI i)], [], 0⟩) ?_
     refine x_skip ?_
     refine x_tn ?_
     refine x_seq ?_
     refine x_block ?_
     refine x_seq ?_
     obtain ⟨x18, hx18, h⟩ := bind_some h
     obtain ⟨t22, ht, h⟩ := bind_some h
     refine x_rg (st2 := ⟨[(0, pL (some 1) enc_api_Entry l), (4, pS s_), (5, pI i), (31, pB t22)], [], 0⟩) ?_ ?_
     ·rcases Bool.eq_false_or_eq_true (decide ((List.length x18.Attrs : Int) = 0)) with hg19 | hg19
      ·replace ht := ite_t ht hg19
       have e := Option.some.inj ht
       subst e
       exact rg0 [hE, hE, hN (.pAt (enc_api_Entry x18)), hE, hE, hN (.len (List.length x18.Attrs : Int)), hE, hE, hS, hS, hS, hS, hS, hS, hN (.pk true)] (⟨[(0, pL (some 1) enc_api_Entry l), (4, pS s_), (5, pI i), (31, pB true)], [], 0⟩) (.cons (lsAt_map (f := enc_api_Entry) hx18) (.cons (lenM enc_api_Attr x18.Attrs) (.cons hg19 (.cons hg19 (.cons hg19 (.cons hg19 (.cons hg19 (.cons hg19 (.cons hg19 .nil)))))))))
      ·replace ht := ite_f ht hg19
       obtain ⟨x20, hx20, ht⟩ := bind_some ht
       obtain ⟨x21, hx21, ht⟩ := bind_some ht
       have e := Option.some.inj ht
       subst e
       exact rg0 [hE, hE, hN (.pAt (enc_api_Entry x18)), hE, hE, hN (.len (List.length x18.Attrs : Int)), hE, hE, hY, hY, (.y, (.pAt (enc_api_Entry x20))), hY, hY, (.y, (.cal [] (.bool x21) true)), hN (.pk false)] (⟨[(0, pL (some 1) enc_api_Entry l), (4, pS s_), (5, pI i), (31, pB x21)], [], 0⟩) (.cons (lsAt_map (f := enc_api_Entry) hx18) (.cons (lenM enc_api_Attr x18.Attrs) (.cons hg19 (.cons hg19 (.cons hg19 (.cons (lsAt_map (f := enc_api_Entry) hx20) (.cons hg19 (.cons hg19 (.cons hg19 (.cons (c40 hx21) (.cons hg19 .nil)))))))))))
     ·clear ht
      refine x_cond _ rfl (fun hc23 => ?_) (fun hc23 => ?_)
      ·replace h := ite_t h hc23
       refine x_rg (rgn [hE, hE] (⟨[(2, pS []), (3, pI 2)], [], 0⟩)) ?_
       refine x_toret ?_
       refine x_tr ?_
       refine x_br ?_
       refine x_tr ?_
       refine x_tr ?_
       replace h := done_leaf h hx16
       refine x_br ?_
       refine x_tr ?_
       obtain rfl := Option.some.inj h
       exact ret0 (.tup [.str [], .int .i64 2]) (.tup (.cons (.refl _) (.cons (.refl _) .nil))) (fun _ => rfl)
      ·replace h := ite_f h hc23
       refine kw0 (⟨[(0, pL (some 1) enc_api_Entry l), (4, pS s_), (5, pI i)], [], 0⟩) ?_
       refine x_skip ?_
       refine x_tn ?_
       obtain ⟨x24, hx24, h⟩ := bind_some h
       obtain ⟨x25, hx25, h⟩ := bind_some h
       refine x_rg (rg0 [hE, hE, hN (.pAt (enc_api_Entry x24)), hE, hE, hN (.cal [] (.tup [.str x25.1, .int .i64 x25.2]) true), hE, hE, hE, hE, hE] (⟨[(0, pL (some 1) enc_api_Entry l), (4, pS s_), (5, pI i), (6, pS x25.1), (7, pI x25.2)], [], 0⟩) (.cons (lsAt_map (f := enc_api_Entry) hx24) (.cons (c60 hx25) .nil))) ?_
       refine x_seq ?_
       refine x_rg (rgn [hE, hE] (⟨[(0, pL (some 1) enc_api_Entry l), (4, pS s_), (5, pI i), (6, pS x25.1), (7, pI x25.2), (42, pB (!decide (x25.2 = 0)))], [], 0⟩)) ?_
       refine x_cond _ rfl (fun hc26 => ?_) (fun hc26 => ?_)
       ·replace h := ite_t h hc26
        refine x_rg (rgn [hE, hE, hE] (⟨[(2, pS []), (3, pI x25.2)], [], 0⟩)) ?_
        refine x_toret ?_
        refine x_tr ?_
        refine x_br ?_
        refine x_tr ?_
        refine x_tr ?_
        replace h := done_leaf h hx16
        refine x_br ?_
        refine x_tr ?_
        obtain rfl := Option.some.inj h
        exact ret0 (.tup [.str [], .int .i64 x25.2]) (.tup (.cons (.refl _) (.cons (.refl _) .nil))) (fun _ => rfl)
       ·replace h := ite_f h hc26
        refine kw0 (⟨[(0, pL (some 1) enc_api_Entry l), (4, pS s_), (5, pI i), (6, pS x25.1)], [], 0⟩) ?_
        refine x_skip ?_
        refine x_tn ?_
        obtain ⟨x27, hx27, h⟩ := bind_some h
        obtain ⟨x28, hx28, h⟩ := bind_some h
        refine x_rgt (rg0 [hE, hE, hN (.cat x27), hN (.cat x28), hE] (⟨[(0, pL (some 1) enc_api_Entry l), (4, pS x28), (5, pI i)], [], 0⟩) (.cons hx27 (.cons hx28 .nil))) ?_
        refine x_bn ?_
        refine x_tn ?_
        refine x_rgt (rgn [hE, hE, hE] (⟨[(0, pL (some 1) enc_api_Entry l), (4, pS x28), (5, pI (IntKind.wrap .i64 (i + 1)))], [], 0⟩)) ?_
        refine x_tn ?_
        exact ⟨_, (Option.some.inj h).symm, by kernel_rfl⟩
    ·replace h := ite_f h hc17
     refine kw0 (⟨[(4, pS s_)], [], 0⟩) ?_
     refine x_exit ?_
     refine x_te ?_
     refine x_te ?_
     replace h := done_leaf h hx16
     refine x_bh ?_
     refine x_tn ?_
     refine x_rg (rgn [hE, hE, hE] (⟨[(2, pS s_), (3, pI 0)], [], 0⟩)) ?_
     refine x_toret ?_
     obtain rfl := Option.some.inj h
     exact ret0 (.tup [.str s_, .int .i64 0]) (.tup (.cons (.refl _) (.cons (.refl _) .nil))) (fun _ => rfl)

theorem c8 {l : (List api_Entry)} {r : Bool} (h : law27_DialPrints l = some r) : CallOK Tryd.prog 8 [.sl (some 1) (List.map enc_api_Entry l)] (.bool r) true := by
  apply ok8
  unfold law27_DialPrints at h
  refine x_rg (rgn [hE] (⟨[(0, pL (some 1) enc_api_Entry l)], [], 0⟩)) ?_
  refine x_seq ?_
  obtain ⟨x1, hx1, h⟩ := bind_some h
  refine x_rg (rg0 [hE, hN (.cal [] (.bool x1) true), hE] (⟨[(0, pL (some 1) enc_api_Entry l), (9, pB (!x1))], [], 0⟩) (.cons (c19 hx1) .nil)) ?_
  refine x_cond _ rfl (fun hc2 => ?_) (fun hc2 => ?_)
  ·replace h := ite_t h hc2
   obtain ⟨x3, hx3, h⟩ := bind_some h
   refine x_rg (rg0 [hN (.cal [] (.bool x3) true), hE] (⟨[(2, pB x3)], [], 0⟩) (.cons (c11 hx3) .nil)) ?_
   refine x_toret ?_
   refine x_tr ?_
   obtain rfl := Option.some.inj h
   exact ret0 (.bool x3) (.refl _) (fun _ => rfl)
  ·replace h := ite_f h hc2
   refine kw0 (⟨[(0, pL (some 1) enc_api_Entry l)], [], 0⟩) ?_
   refine x_skip ?_
   refine x_tn ?_
   obtain ⟨x4, hx4, h⟩ := bind_some h
   refine x_rg (rg0 [hE, hN (.cal [] (.tup [.str x4.1, .int .i64 x4.2]) true), hE, hE, hE, hE, hE] (⟨[(0, pL (some 1) enc_api_Entry l), (3, pS x4.1), (4, pI x4.2)], [], 0⟩) (.cons (c28 hx4) .nil)) ?_
   obtain ⟨x5, hx5, h⟩ := bind_some h
   refine x_rg (rg0 [hE, hN (.cal [] (.tup [.str x5.1, .int .i64 x5.2]) true), hE, hE, hE, hE, hE] (⟨[(3, pS x4.1), (4, pI x4.2), (5, pS x5.1), (6, pI x5.2)], [], 0⟩) (.cons (c29 hx5) .nil)) ?_
   obtain ⟨t9, ht, h⟩ := bind_some h
   refine x_rg (st2 := ⟨[(2, pB t9)], [], 0⟩) ?_ ?_
   ·rcases Bool.eq_false_or_eq_true (decide (x4.1 = x5.1)) with hg6 | hg6
    ·replace ht := ite_t ht hg6
     rcases Bool.eq_false_or_eq_true (decide (x4.2 = x5.2)) with hg7 | hg7
     ·replace ht := ite_t ht hg7
      obtain ⟨x8, hx8, ht⟩ := bind_some ht
      have e := Option.some.inj ht
      subst e
      exact rg0 [hE, hE, hE, hE, hY, hY, hY, hN (.pk true), hE, (.y, (.cal [] (.bool x8) true)), hN (.pk true), hE] (⟨[(2, pB x8)], [], 0⟩) (.cons hg6 (.cons hg6 (.cons hg6 (.cons hg6 (.cons hg7 (.cons (c11 hx8) (.cons hg7 .nil)))))))
     ·replace ht := ite_f ht hg7
      have e := Option.some.inj ht
      subst e
      exact rg0 [hE, hE, hE, hE, hY, hY, hY, hN (.pk true), hE, hS, hN (.pk false), hE] (⟨[(2, pB false)], [], 0⟩) (.cons hg6 (.cons hg6 (.cons hg6 (.cons hg6 (.cons hg7 (.cons hg7 .nil))))))
    ·replace ht := ite_f ht hg6
     have e := Option.some.inj ht
     subst e
     exact rg0 (obs := [((decide (x4.1 = x5.1)) = false), ((decide (x4.1 = x5.1)) = false), ((decide (x4.1 = x5.1)) = false), ((decide (x4.1 = x5.1)) = false), (false = false)]) [hE, hE, hE, hE, hS, hS, hS, hN (.pk false), hE, hS, hE, hE] (⟨[(2, pB false)], [], 0⟩) (.cons hg6 (.cons hg6 (.cons hg6 (.cons hg6 (.cons rfl .nil)))))
   ·clear ht
    refine x_toret ?_
    obtain rfl := Option.some.inj h
    exact ret0 (.bool t9) (.refl _) (fun _ => rfl)

end Go.Proofs.YtphblddgbbgdnaaDoor
